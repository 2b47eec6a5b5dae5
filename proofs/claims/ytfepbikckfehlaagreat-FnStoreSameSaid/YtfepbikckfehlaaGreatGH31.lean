/- Items together, there, less others; by how much what is there once is turned: the reference's. -/
import Derived.Test.YtfepbikckfehlaaGreatGH30
import Derived.Test.YtfepbikckfehlaaGreatGH25
import Derived.Test.YtfepbikckfehlaaGreatGH27
import Derived.Test.YtfepbikckfehlaaGreatGH28
set_option linter.unusedVariables false
set_option linter.unusedSimpArgs false
set_option maxHeartbeats 4000000
set_option pp.deepTerms false
set_option pp.deepTerms.threshold 60
namespace Go.Proofs.YtfepbikckfehlaaGreat
open Go Go.Am
variable{pr:bW}(hp:cF pr)
set_option maxRecDepth 100000
theorem wS(hp:cF pr)(xs ys:List Item)(hx:ij xs)(hy:ij ys):dK pr 43 [aI.enc xs,aI.enc ys] (.bool (zY xs ys)):=by
 obtain⟨hl,hr⟩:=hx;obtain⟨Cu,jk⟩:=hy;have vM:=hl;unfold dB at vM;refine kz hp rfl rfl ?_;have S:=aj.nil [];conv=>whnf
 refine ae (fun h0=>?_) (fun h0=>?_)
 ·conv=>whnf
  exact br (fg (by simp at h0;omega)).symm
 have hlen:xs.length=ys.length:=by simp at h0;omega
 unfold zY;conv=>whnf
 refine dQ (fun m tm hp=>∃(j:Nat),j+m=xs.length/\tm 5=i64 (j:Nat)/\(bZ kI xs ys=bZ kI (xs.drop j) (ys.drop j))) (fun m tm hq bG hI=>?_) (xs.length) ⟨0,by simp,rfl,(rfl)⟩;obtain⟨j,hj,e5,aF⟩:=hI;have k0:=bG 0 (by kernel_rfl);conv at k0=>rhs;whnf
 have k1:=bG 1 (by kernel_rfl);conv at k1=>rhs;whnf
 refine⟨[(0,_),(1,_),(5,_)],⟨k0,k1,e5,trivial⟩,?_⟩;clear bG k0 k1 e5;have S:aj hq []:=aj.nil hq;conv=>whnf
 refine ae (fun h1=>?_) (fun h1=>?_)
 ·have bp:j<xs.length:=by simpa using h1
  have ss:j<ys.length:=by omega
  rw[en bp ss]at aF;have g1:(xs.map Item.enc)[((j:Nat):Int).toNat]?=some (Item.enc xs[j]):=by rw[aaa];simp[bp]
  have g2:(ys.map Item.enc)[((j:Nat):Int).toNat]?=some (Item.enc ys[j]):=by rw[aaa];simp[ss]
  have eZ:=pe hp xs[j].row ys[j].row (hr _ (aac bp)) (jk _ (aac ss));generalize xs[j]=x at*;generalize ys[j]=y at*;obtain⟨r1,w1⟩:=x;obtain⟨r2,w2⟩:=y
  iterate 9
   all_goals(try(conv=>whnf))
   all_goals(first|(refine⟨_,g1,by omega,rfl,?_⟩)|(refine⟨_,g2,by omega,rfl,?_⟩)|(intro iK cp ee bf;replace S:=S.alloc ee bf)|(refine aC (S.row 0 rfl) ?_)|(refine⟨_,rfl,rfl,rfl,.inl ⟨_,S.row 0 rfl,rfl,?_⟩⟩;(conv=>whnf);intro cp bf;replace S:=S.w0 bf)|(refine ae (fun hb=>?_) (fun hb=>?_))|(refine⟨_,eZ _,?_⟩)|skip)
  all_goals first
   |exact br (by rw[aF];clear g1 g2 S aF;simp_all[kI,Bool.and_assoc])
   |exact⟨m-1,by omega,j+1,by omega,aP j (by omega),by rw[aF];clear g1 g2 S aF;simp_all[kI]⟩
 ·have bp:j=xs.length:=by
   have: ¬j<xs.length:=by simpa using h1
   omega
  subst bp;rw[eN hlen]at aF;conv=>whnf
  exact br aF.symm
theorem Bx(hp:cF pr)(xs ys:List (List Item))(hx:s7 xs)(hy:s7 ys):dK pr 106 [.agg [bX.enc xs],.agg [bX.enc ys]] (.bool (vj xs ys)):=by
 obtain⟨hl,hr⟩:=hx;obtain⟨Cu,jk⟩:=hy;have vM:=hl;unfold dB at vM;refine kz hp rfl rfl ?_;have S:=aj.nil [];unfold vj;conv=>whnf
 intro ka a1 OD OE;replace S:=S.alloc OD OE;conv=>whnf
 intro kb a2 CL CM;replace S:=S.alloc CL CM;clear OD OE CL CM;refine aC (S.row 1 rfl) ?_;refine aC (S.row 0 rfl) ?_;conv=>whnf
 refine ae (fun h0=>?_) (fun h0=>?_)
 ·conv=>whnf
  exact br (fg (by simp at h0;omega)).symm
 have hlen:xs.length=ys.length:=by simp at h0;omega
 conv=>whnf
 refine dQ (fun m tm hp=>∃(j:Nat),j+m=xs.length/\tm 5=i64 (j:Nat)/\aj hp [.row kb (.box (.agg [bX.enc ys])),.row ka (.box (.agg [bX.enc xs]))]/\(bZ zY xs ys=bZ zY (xs.drop j) (ys.drop j))) (fun m tm hq bG hI=>?_) (xs.length) ⟨0,by simp,rfl,S,(rfl)⟩;obtain⟨j,hj,e5,S2,aF⟩:=hI;have k2:=bG 2 (by kernel_rfl);conv at k2=>rhs;whnf
 have k3:=bG 3 (by kernel_rfl);conv at k3=>rhs;whnf
 refine⟨[(2,_),(3,_),(5,_)],⟨k2,k3,e5,trivial⟩,?_⟩;clear bG k2 k3 e5;replace S:=S2;clear S2;refine aC (S.row 1 rfl) ?_;conv=>whnf
 refine ae (fun h1=>?_) (fun h1=>?_)
 ·have bp:j<xs.length:=by simpa using h1
  have ss:j<ys.length:=by omega
  rw[en bp ss]at aF;have g1:(xs.map aI.enc)[((j:Nat):Int).toNat]?=some (aI.enc xs[j]):=by rw[aaa];simp[bp]
  have g2:(ys.map aI.enc)[((j:Nat):Int).toNat]?=some (aI.enc ys[j]):=by rw[aaa];simp[ss]
  have eZ:=wS hp xs[j] ys[j] (hr _ (aac bp)) (jk _ (aac ss));generalize xs[j]=x at*;generalize ys[j]=y at*
  iterate 9
   all_goals(try(conv=>whnf))
   all_goals(first|(refine⟨_,g1,by omega,rfl,?_⟩)|(refine⟨_,g2,by omega,rfl,?_⟩)|(intro iK cp ee bf;replace S:=S.alloc ee bf)|(refine aC (S.row 0 rfl) ?_)|(refine aC (S.row 1 rfl) ?_)|(refine⟨_,rfl,rfl,rfl,.inl ⟨_,S.row 0 rfl,rfl,?_⟩⟩;(conv=>whnf);intro cp bf;replace S:=S.w0 bf)|(refine⟨_,rfl,rfl,rfl,.inl ⟨_,S.row 1 rfl,rfl,?_⟩⟩;(conv=>whnf);intro cp bf;replace S:=S.w1 bf)|(refine ae (fun hb=>?_) (fun hb=>?_))|(refine⟨_,eZ _,?_⟩)|skip)
  all_goals first
   |exact br (by rw[aF];clear g1 g2 S aF;simp_all[zY,Bool.and_assoc])
   |exact⟨m-1,by omega,j+1,by omega,aP j (by omega),S,by rw[aF];clear g1 g2 S aF;simp_all[zY]⟩
 ·have bp:j=xs.length:=by
   have: ¬j<xs.length:=by simpa using h1
   omega
  subst bp;rw[eN hlen]at aF;conv=>whnf
  exact br aF.symm
theorem IH(hp:cF pr): ∀(N:Nat)(f:bz),SizeOf.sizeOf f<=N->f.d.fA<=1048576-> ∀g,g.d.fA<=1048576->dK pr 75 [f.enc,g.enc] (.bool (gd f g)):=by
 intro N
 induction N with
 |zero=>intro f h;cases f;simp at h
 |succ N ih=>
  intro f jP ht g OG;obtain⟨p,l,r,ks⟩:=f;obtain⟨p',l',r',kC⟩:=g;rw[jY]at ht OG;have hl:=Bx hp l l' (eV (by omega)) (eV (by omega));have hr:=Bx hp r r' (eV (by omega)) (eV (by omega));have vD:=y8 hp p p' (by unfold aA.small;omega) (by unfold aA.small;omega);have vU: ∀k∈ks,∀k'∈kC,dK pr 75 [k.enc,k'.enc] (.bool (gd k k')):=fun k hk k' zE=>ih k (by have:=abo hk;simp at jP;omega) (by have:=eA (f:=bz.d) hk;omega) k' (by have:=eA (f:=bz.d) zE;omega);have sd:ks.length<=1048576:=by omega
  clear ih jP ht OG;generalize hR:gd (.mk p l r ks) (.mk p' l' r' kC)=R;rw[gd,ph]at hR;have UY:=bz.jW ks;have Y0:=bz.jW kC;obtain⟨au,n,⟨tk,pK,⟨t1,t2,t3,t4⟩,⟨t5,t6,t7,t8⟩⟩,cells,a,b,aq,agg,c,ao⟩:=p;obtain⟨cG,n',⟨uk,Pm,⟨u1,u2,u3,u4⟩,⟨u5,u6,u7,u8⟩⟩,bR,a',b',cH,dE,c',cE⟩:=p';refine kz hp rfl rfl ?_;have S:=aj.nil [];conv=>whnf
  intro ka a1 OD OE;replace S:=S.alloc OD OE;conv=>whnf
  intro kb a2 CL CM;replace S:=S.alloc CL CM;clear OD OE CL CM
  iterate 16
   all_goals(try(conv=>whnf))
   all_goals(first|(intro iK cp ee bf;replace S:=S.alloc ee bf)|(refine aC (S.row 0 rfl) ?_)|(refine aC (S.row 1 rfl) ?_)|(refine⟨_,rfl,rfl,rfl,.inl ⟨_,S.row 0 rfl,rfl,?_⟩⟩;(conv=>whnf);intro cp bf;replace S:=S.w0 bf)|(refine⟨_,rfl,rfl,rfl,.inl ⟨_,S.row 1 rfl,rfl,?_⟩⟩;(conv=>whnf);intro cp bf;replace S:=S.w1 bf)|(refine ae (fun hb=>?_) (fun hb=>?_))|(refine⟨_,vD _,?_⟩)|(refine⟨_,hl _,?_⟩)|(refine⟨_,hr _,?_⟩)|skip)
  all_goals(try(refine br ?_;rw[<-hR];clear hR hl hr vD vU UY Y0 S;simp_all;done))
  ·exact br (by
    rw[<-hR,fg (us:=ks) (vs:=kC) (by rw[UY,Y0]at hb;simp at hb;omega)];simp)
  rename_i b1 b2 b3;have hlen:ks.length=kC.length:=by rw[UY,Y0]at hb;simp at hb;omega
  have hR:bZ gd ks kC=R:=by rw[<-hR];clear hR hl hr vD vU UY Y0 S hlen;simp_all
  rw[<-hR];clear hR hl hr vD b1 b2 b3 hb;rw[UY];refine dQ (fun m tm hp=>∃(j:Nat),j+m=ks.length/\tm 5=i64 (j:Nat)/\aj hp [.row kb (.box (bz.mk ⟨cG,n',⟨uk,Pm,⟨u1,u2,u3,u4⟩,⟨u5,u6,u7,u8⟩⟩,bR,a',b',cH,dE,c',cE⟩ l' r' kC).enc),.row ka (.box (bz.mk ⟨au,n,⟨tk,pK,⟨t1,t2,t3,t4⟩,⟨t5,t6,t7,t8⟩⟩,cells,a,b,aq,agg,c,ao⟩ l r ks).enc)]/\(bZ gd ks kC=bZ gd (ks.drop j) (kC.drop j))) (fun m tm hq bG hI=>?_) (ks.length) ⟨0,by simp,rfl,S,(rfl)⟩;obtain⟨j,hj,e5,S2,aF⟩:=hI;have k2:=bG 2 (by kernel_rfl);conv at k2=>rhs;whnf
  have k3:=bG 3 (by kernel_rfl);conv at k3=>rhs;whnf
  refine⟨[(2,_),(3,_),(5,_)],⟨k2,k3,e5,trivial⟩,?_⟩;clear bG k2 k3 e5;replace S:=S2;clear S2;refine aC (S.row 1 rfl) ?_;conv=>whnf
  refine ae (fun h1=>?_) (fun h1=>?_)
  ·have bp:j<ks.length:=by simpa[UY]using h1
   have ss:j<kC.length:=by omega
   rw[en bp ss]at aF;have g1:(ks.map bz.enc)[((j:Nat):Int).toNat]?=some (bz.enc ks[j]):=by rw[aaa];simp[bp]
   have g2:(kC.map bz.enc)[((j:Nat):Int).toNat]?=some (bz.enc kC[j]):=by rw[aaa];simp[ss]
   have eZ:=vU _ (aac bp) _ (aac ss);rw[<-UY]at g1;rw[<-Y0]at g2;generalize ks[j]=x at*;generalize kC[j]=y at*;obtain⟨⟨adA,nx,⟨tkx,afC,⟨t1x,t2x,t3x,t4x⟩,⟨t5x,t6x,t7x,t8x⟩⟩,abU,ax,bx,adB,afD,cx,adC⟩,lx,rx,ksx⟩:=x;obtain⟨⟨adD,ny,⟨uky,afE,⟨u1y,u2y,u3y,u4y⟩,⟨u5y,u6y,u7y,u8y⟩⟩,abV,ay,byy,adE,afF,cy,adF⟩,ly,ry,ksy⟩:=y
   iterate 9
    all_goals(try(conv=>whnf))
    all_goals(first|(refine⟨_,g1,by omega,rfl,?_⟩)|(refine⟨_,g2,by omega,rfl,?_⟩)|(intro iK cp ee bf;replace S:=S.alloc ee bf)|(refine aC (S.row 0 rfl) ?_)|(refine aC (S.row 1 rfl) ?_)|(refine⟨_,rfl,rfl,rfl,.inl ⟨_,S.row 0 rfl,rfl,?_⟩⟩;(conv=>whnf);intro cp bf;replace S:=S.w0 bf)|(refine⟨_,rfl,rfl,rfl,.inl ⟨_,S.row 1 rfl,rfl,?_⟩⟩;(conv=>whnf);intro cp bf;replace S:=S.w1 bf)|(refine ae (fun hb=>?_) (fun hb=>?_))|(refine⟨_,eZ _,?_⟩)|skip)
   all_goals first
    |exact br (by rw[aF];clear g1 g2 S aF;simp_all[gd,Bool.and_assoc])
    |exact⟨m-1,by omega,j+1,by omega,aP j (by omega),S,by rw[aF];clear g1 g2 S aF;simp_all[gd]⟩
  ·have bp:j=ks.length:=by
    have: ¬j<ks.length:=by simpa[UY]using h1
    omega
   subst bp;rw[eN hlen]at aF;conv=>whnf
   exact br aF.symm
theorem Rp(hp:cF pr)(x y:View)(ht:x.d.fA<=1048576)(OG:y.d.fA<=1048576):dK pr 44 [x.enc,y.enc] (.bool (iC x y)):=by
 rw[nk]at ht OG;have h1:=IH hp _ x.hU (aah _) (by omega) y.hU (by omega);have h2:=wS hp x.base y.base (j0 (by omega)) (j0 (by omega));have Dd:=lq (ps:=x.aZ) (by omega);have Y1:=lq (ps:=y.aZ) (by omega);have sd:x.aZ.length<=1048576:=by omega
 clear ht OG;generalize hR:iC x y=R;unfold iC at hR;obtain⟨⟨⟨au,n,⟨tk,pK,⟨t1,t2,t3,t4⟩,⟨t5,t6,t7,t8⟩⟩,cells,a,b,aq,agg,c,ao⟩,l,r,ks⟩,bO,base,aZ⟩:=x;obtain⟨⟨⟨cG,n',⟨uk,Pm,⟨u1,u2,u3,u4⟩,⟨u5,u6,u7,u8⟩⟩,bR,a',b',cH,dE,c',cE⟩,l',r',kC⟩,Fl,MQ,mg⟩:=y;simp only at hR Dd Y1 sd;refine kz hp rfl rfl ?_;have S:=aj.nil [];conv=>whnf
 intro ka a1 OD OE;replace S:=S.alloc OD OE;conv=>whnf
 intro kb a2 CL CM;replace S:=S.alloc CL CM;clear OD OE CL CM
 iterate 16
  all_goals(try(conv=>whnf))
  all_goals(first|(intro iK cp ee bf;replace S:=S.alloc ee bf)|(refine aC (S.row 0 rfl) ?_)|(refine aC (S.row 1 rfl) ?_)|(refine⟨_,rfl,rfl,rfl,.inl ⟨_,S.row 0 rfl,rfl,?_⟩⟩;(conv=>whnf);intro cp bf;replace S:=S.w0 bf)|(refine⟨_,rfl,rfl,rfl,.inl ⟨_,S.row 1 rfl,rfl,?_⟩⟩;(conv=>whnf);intro cp bf;replace S:=S.w1 bf)|(refine ae (fun hb=>?_) (fun hb=>?_))|(refine⟨_,h1 _,?_⟩)|(refine⟨_,h2 _,?_⟩)|skip)
 all_goals(try(refine br ?_;rw[<-hR];clear hR h1 h2 S;simp_all;done))
 ·exact br (by
   rw[<-hR,fg (us:=aZ) (vs:=mg) (by simp at hb;omega)];simp)
 rename_i b1 b2 b3;have hlen:aZ.length=mg.length:=by simp at hb;omega
 have hR:bZ j4 aZ mg=R:=by rw[<-hR];clear hR h1 h2 S hlen;simp_all
 rw[<-hR];clear hR h1 h2 b1 b2 b3 hb;refine dQ (fun m tm hp=>∃(j:Nat),j+m=aZ.length/\tm 5=i64 (j:Nat)/\aj hp [.row kb (.box (View.enc ⟨⟨⟨cG,n',⟨uk,Pm,⟨u1,u2,u3,u4⟩,⟨u5,u6,u7,u8⟩⟩,bR,a',b',cH,dE,c',cE⟩,l',r',kC⟩,Fl,MQ,mg⟩)),.row ka (.box (View.enc ⟨⟨⟨au,n,⟨tk,pK,⟨t1,t2,t3,t4⟩,⟨t5,t6,t7,t8⟩⟩,cells,a,b,aq,agg,c,ao⟩,l,r,ks⟩,bO,base,aZ⟩))]/\(bZ j4 aZ mg=bZ j4 (aZ.drop j) (mg.drop j))) (fun m tm hq bG hI=>?_) (aZ.length) ⟨0,by simp,rfl,S,(rfl)⟩;obtain⟨j,hj,e5,S2,aF⟩:=hI;have k2:=bG 2 (by kernel_rfl);conv at k2=>rhs;whnf
 have k3:=bG 3 (by kernel_rfl);conv at k3=>rhs;whnf
 refine⟨[(2,_),(3,_),(5,_)],⟨k2,k3,e5,trivial⟩,?_⟩;clear bG k2 k3 e5;replace S:=S2;clear S2;refine aC (S.row 1 rfl) ?_;conv=>whnf
 refine ae (fun h1=>?_) (fun h1=>?_)
 ·have bp:j<aZ.length:=by simpa using h1
  have ss:j<mg.length:=by omega
  rw[en bp ss]at aF;have g1:(aZ.map dg.enc)[((j:Nat):Int).toNat]?=some (dg.enc aZ[j]):=by rw[aaa];simp[bp]
  have g2:(mg.map dg.enc)[((j:Nat):Int).toNat]?=some (dg.enc mg[j]):=by rw[aaa];simp[ss]
  have eZ:=wS hp aZ[j].out mg[j].out (Dd _ (aac bp)) (Y1 _ (aac ss));generalize aZ[j]=x at*;generalize mg[j]=y at*;obtain⟨at1,o1⟩:=x;obtain⟨at2,o2⟩:=y
  iterate 14
   all_goals(try(conv=>whnf))
   all_goals(first|(refine⟨_,g1,by omega,rfl,?_⟩)|(refine⟨_,g2,by omega,rfl,?_⟩)|(intro iK cp ee bf;replace S:=S.alloc ee bf)|(refine aC (S.row 0 rfl) ?_)|(refine aC (S.row 1 rfl) ?_)|(refine⟨_,rfl,rfl,rfl,.inl ⟨_,S.row 0 rfl,rfl,?_⟩⟩;(conv=>whnf);intro cp bf;replace S:=S.w0 bf)|(refine⟨_,rfl,rfl,rfl,.inl ⟨_,S.row 1 rfl,rfl,?_⟩⟩;(conv=>whnf);intro cp bf;replace S:=S.w1 bf)|(refine ae (fun hb=>?_) (fun hb=>?_))|(refine⟨_,eZ _,?_⟩)|skip)
  all_goals first
   |exact br (by rw[aF];clear g1 g2 S aF;simp_all[j4,Bool.and_assoc])
   |exact⟨m-1,by omega,j+1,by omega,aP j (by omega),S,by rw[aF];clear g1 g2 S aF;simp_all[j4]⟩
 ·have bp:j=aZ.length:=by
   have: ¬j<aZ.length:=by simpa using h1
   omega
  subst bp;rw[eN hlen]at aF;conv=>whnf
  exact br aF.symm
theorem Fm(hp:cF pr)(x y:bN)(ht:x.d.fA<=1048576)(OG:y.d.fA<=1048576):dK pr 14 [x.enc,y.enc] (.bool (gZ x y)):=by
 rw[eK]at ht OG;have h1:=Ic hp x.bc y.bc (by omega) (by omega);have hr:=eV (l:=x.aH) (by omega);have jk:=eV (l:=y.aH) (by omega);have hv: ∀v∈x.aL,v.d.fA<=1048576:=fun v hv=>by have:=eA (f:=View.d) hv;omega
 have UZ: ∀v∈y.aL,v.d.fA<=1048576:=fun v hv=>by have:=eA (f:=View.d) hv;omega
 have sd:x.aH.length<=1048576:=by have:=ht;simp only[bX.d,bg.fA,aat]at this;omega
 have Y2:x.aL.length<=1048576:=by omega
 clear ht OG;generalize hR:gZ x y=R;unfold gZ at hR;obtain⟨bc,aH,aL,now,keep⟩:=x;obtain⟨Rq,ko,mR,Rr,U0⟩:=y;simp only at hR hr jk hv UZ sd Y2 h1;refine kz hp rfl rfl ?_;have S:=aj.nil [];conv=>whnf
 intro ka a1 OD OE;replace S:=S.alloc OD OE;conv=>whnf
 intro kb a2 CL CM;replace S:=S.alloc CL CM;clear OD OE CL CM;have e1: ¬(aH.length:Int)=ko.length->bZ zY aH ko=false:=fun h=>fg (by omega);have e2: ¬(aL.length:Int)=mR.length->bZ iC aL mR=false:=fun h=>fg (by omega)
 iterate 20
  all_goals(try(conv=>whnf))
  all_goals(first|(intro iK cp ee bf;replace S:=S.alloc ee bf)|(refine aC (S.row 0 rfl) ?_)|(refine aC (S.row 1 rfl) ?_)|(refine⟨_,rfl,rfl,rfl,.inl ⟨_,S.row 0 rfl,rfl,?_⟩⟩;(conv=>whnf);intro cp bf;replace S:=S.w0 bf)|(refine⟨_,rfl,rfl,rfl,.inl ⟨_,S.row 1 rfl,rfl,?_⟩⟩;(conv=>whnf);intro cp bf;replace S:=S.w1 bf)|(refine ae (fun hb=>?_) (fun hb=>?_))|(refine⟨_,h1 _,?_⟩)|skip)
 all_goals(try(refine br ?_;rw[<-hR];clear hR h1 hr jk hv UZ sd Y2 S;simp_all;done))
 rename_i b1 b2 b3 b4;have hlen:aH.length=ko.length:=by simp at b2;omega
 have Rs:aL.length=mR.length:=by simp at b3;omega
 have hR:(bZ zY aH ko&&bZ iC aL mR)=R:=by rw[<-hR];clear hR h1 hr jk hv UZ S hlen Rs e1 e2;simp_all
 rw[<-hR];clear hR h1 e1 e2 b1 b2 b3 b4 hb;refine dQ (fun m tm hp=>∃(j:Nat),j+m=aH.length/\tm 5=i64 (j:Nat)/\aj hp [.row kb (.box (bN.enc ⟨Rq,ko,mR,Rr,U0⟩)),.row ka (.box (bN.enc ⟨bc,aH,aL,now,keep⟩))]/\(bZ zY aH ko=bZ zY (aH.drop j) (ko.drop j))) (fun m tm hq bG hI=>?_) (aH.length) ⟨0,by simp,rfl,S,(rfl)⟩;obtain⟨j,hj,e5,S2,aF⟩:=hI;have k2:=bG 2 (by kernel_rfl);conv at k2=>rhs;whnf
 have k3:=bG 3 (by kernel_rfl);conv at k3=>rhs;whnf
 refine⟨[(2,_),(3,_),(5,_)],⟨k2,k3,e5,trivial⟩,?_⟩;clear bG k2 k3 e5;replace S:=S2;clear S2;refine aC (S.row 1 rfl) ?_;conv=>whnf
 refine ae (fun h1=>?_) (fun h1=>?_)
 ·have bp:j<aH.length:=by simpa using h1
  have ss:j<ko.length:=by omega
  rw[en bp ss]at aF;have g1:(aH.map aI.enc)[((j:Nat):Int).toNat]?=some (aI.enc aH[j]):=by rw[aaa];simp[bp]
  have g2:(ko.map aI.enc)[((j:Nat):Int).toNat]?=some (aI.enc ko[j]):=by rw[aaa];simp[ss]
  have eZ:=wS hp aH[j] ko[j] (hr.2 _ (aac bp)) (jk.2 _ (aac ss));generalize aH[j]=x at*;generalize ko[j]=y at*
  iterate 9
   all_goals(try(conv=>whnf))
   all_goals(first|(refine⟨_,g1,by omega,rfl,?_⟩)|(refine⟨_,g2,by omega,rfl,?_⟩)|(intro iK cp ee bf;replace S:=S.alloc ee bf)|(refine aC (S.row 0 rfl) ?_)|(refine aC (S.row 1 rfl) ?_)|(refine⟨_,rfl,rfl,rfl,.inl ⟨_,S.row 0 rfl,rfl,?_⟩⟩;(conv=>whnf);intro cp bf;replace S:=S.w0 bf)|(refine⟨_,rfl,rfl,rfl,.inl ⟨_,S.row 1 rfl,rfl,?_⟩⟩;(conv=>whnf);intro cp bf;replace S:=S.w1 bf)|(refine ae (fun hb=>?_) (fun hb=>?_))|(refine⟨_,eZ _,?_⟩)|skip)
  all_goals first
   |exact br (by rw[aF];clear g1 g2 S aF;simp_all[zY,Bool.and_assoc])
   |exact⟨m-1,by omega,j+1,by omega,aP j (by omega),S,by rw[aF];clear g1 g2 S aF;simp_all[zY]⟩
 ·have bp:j=aH.length:=by
   have: ¬j<aH.length:=by simpa using h1
   omega
  subst bp;rw[eN hlen]at aF;rw[aF,aay];conv=>whnf
  refine dQ (fun m tm hp=>∃(j:Nat),j+m=aL.length/\tm 6=i64 (j:Nat)/\aj hp [.row kb (.box (bN.enc ⟨Rq,ko,mR,Rr,U0⟩)),.row ka (.box (bN.enc ⟨bc,aH,aL,now,keep⟩))]/\(bZ iC aL mR=bZ iC (aL.drop j) (mR.drop j))) (fun m tm hq bG hI=>?_) (aL.length) ⟨0,by simp,rfl,S,(rfl)⟩;obtain⟨j,hj,e6,S2,aF⟩:=hI;have k2:=bG 2 (by kernel_rfl);conv at k2=>rhs;whnf
  have k3:=bG 3 (by kernel_rfl);conv at k3=>rhs;whnf
  refine⟨[(2,_),(3,_),(6,_)],⟨k2,k3,e6,trivial⟩,?_⟩;clear bG k2 k3 e6;replace S:=S2;clear S2;refine aC (S.row 1 rfl) ?_;conv=>whnf
  refine ae (fun h1=>?_) (fun h1=>?_)
  ·have bp:j<aL.length:=by simpa using h1
   have ss:j<mR.length:=by omega
   rw[en bp ss]at aF;have g1:(aL.map View.enc)[((j:Nat):Int).toNat]?=some (View.enc aL[j]):=by rw[aaa];simp[bp]
   have g2:(mR.map View.enc)[((j:Nat):Int).toNat]?=some (View.enc mR[j]):=by rw[aaa];simp[ss]
   have eZ:=Rp hp aL[j] mR[j] (hv _ (aac bp)) (UZ _ (aac ss));generalize aL[j]=x at*;generalize mR[j]=y at*;obtain⟨⟨⟨kx,n,⟨tk,pK,⟨t1,t2,t3,t4⟩,⟨t5,t6,t7,t8⟩⟩,cells,a,b,aq,agg,c,ao⟩,l,r,ks⟩,bO,base,aZ⟩:=x;obtain⟨⟨⟨cG,n',⟨uk,Pm,⟨u1,u2,u3,u4⟩,⟨u5,u6,u7,u8⟩⟩,bR,a',b',cH,dE,c',cE⟩,l',r',kC⟩,Fl,MQ,mg⟩:=y
   iterate 9
    all_goals(try(conv=>whnf))
    all_goals(first|(refine⟨_,g1,by omega,rfl,?_⟩)|(refine⟨_,g2,by omega,rfl,?_⟩)|(intro iK cp ee bf;replace S:=S.alloc ee bf)|(refine aC (S.row 0 rfl) ?_)|(refine aC (S.row 1 rfl) ?_)|(refine⟨_,rfl,rfl,rfl,.inl ⟨_,S.row 0 rfl,rfl,?_⟩⟩;(conv=>whnf);intro cp bf;replace S:=S.w0 bf)|(refine⟨_,rfl,rfl,rfl,.inl ⟨_,S.row 1 rfl,rfl,?_⟩⟩;(conv=>whnf);intro cp bf;replace S:=S.w1 bf)|(refine ae (fun hb=>?_) (fun hb=>?_))|(refine⟨_,eZ _,?_⟩)|skip)
   all_goals first
    |exact br (by rw[aF];clear g1 g2 S aF;simp_all[iC,Bool.and_assoc])
    |exact⟨m-1,by omega,j+1,by omega,aP j (by omega),S,by rw[aF];clear g1 g2 S aF;simp_all[iC]⟩
  ·have bp:j=aL.length:=by
    have: ¬j<aL.length:=by simpa using h1
    omega
   subst bp;rw[eN Rs]at aF;conv=>whnf
   exact br aF.symm
end Go.Proofs.YtfepbikckfehlaaGreat
set_option maxHeartbeats 4000000
namespace Go.Proofs.YtfepbikckfehlaaGreat
open Go Go.Am
variable{pr:bW}(hp:cF pr)
set_option maxRecDepth 100000
def pQ:Option (List Item)->List Item×Bool
 |some z=>(z,true)
 |none=>([],false)
theorem CN{h:aG}{L:List Chunk}{z:List Item}{v:af}{F:List Nat}(S:aj h (.jA 2 (z.map Item.d) v F::L))(b:Bool):cZ h [aI.d z,.b b] [v,.bool b] (F++[])/\(F++[]).Nodup:=
 ⟨iH ((aj.ek S).get 0 rfl) (ve b),by rw[aaw];exact(S.get' 0 _ rfl).2⟩
theorem kJ(h:aG):cZ h [aI.d [],.b false] [.nil,.bool false] ([]++[])/\(([]:List Nat)++[]).Nodup:=⟨iH (rI 2) (ve false),by simp⟩
theorem qQ{h:aG}{L:List Chunk}{z:List Item}{v:af}{F:List Nat}(S:aj h (.jA 2 (z.map Item.d) v F::L)):Am.snap h v=some (aI.enc z):=aI.iT ((aj.ek S).get 0 rfl)
include hp in
theorem qR{z:List Item}(hz:ij z){v:af}{F:List Nat}{h:aG}{L:List Chunk}(S:aj h (.jA 2 (z.map Item.d) v F::L)){K:ef->Prop}
  (hK:dS z=true->K (.ret (.eT [v,.bool true]) h)) (hK2:dS z=false->K (.ret (.eT [.nil,.bool false]) h)): ∃r,cj (dZ pr) (call (dZ pr)) 154 [v] h=some r/\K r:=by
   rw[nN rfl];have h1:=(iU hp z hz).here (args:=[v]) (rG (qQ S)) rfl rfl;refine dJ (hp.out _ rfl) ?_;conv=>whnf
   refine⟨_,h1,?_⟩;conv=>whnf
   refine ae (fun g1=>?_) (fun g1=>?_)
   ·conv=>whnf
    exact⟨_,rfl,hK g1⟩
   ·conv=>whnf
    exact⟨_,rfl,hK2 g1⟩
theorem OH(P:Item->Bool){z:List Item}{j:Nat}(h:j<z.length):(z.take (j+1)).filter P=if P z[j]then(z.take j).filter P++[z[j]]else(z.take j).filter P:=by
 rw[dX h,List.filter_append];split<;>simp_all
theorem Rt(Q:Item->Bool){z:List Item}{j:Nat}(h:j<z.length):(z.take (j+1)).all Q=((z.take j).all Q&&Q z[j]):=by
 rw[dX h,List.all_append];simp
theorem T1{Q:Item->Bool}{z:List Item}{j:Nat}(h:j<z.length)(hb:Q z[j]=false):z.all Q=false:=by
 rw[List.all_eq_false];exact⟨_,aac h,by rw[hb];simp⟩
theorem tY(a b:List Item)(x:Item):dt a (b++[x])=hY (dt a b) x.row x.w:=by simp[dt,List.foldl_append]
theorem wT{b:List Item}(hb:ij b):(dt [] b).length<=b.length/\ ∀x∈dt [] b,x.row.length<=dB:=by
 have:=gx (a:=[]) (b:=b) (by simp) hb.2;simpa using this
theorem II{z:List Item}(P:Item->Bool)(j:Nat)(hz:ij z):ij ((z.take j).filter P):=
 ⟨aa3 (abH _ _) (aa3 (List.length_take_le' _ _) hz.1),fun x hx=>hz.2 x (abz (List.mem_filter.1 hx).1)⟩
def rO(z:List Item)(t:Test):Option (List Item):=if dS z&&z.all (fun x=>(jZ t x.row).2)then some (dt [] (z.filter fun x=>(jZ t x.row).1))else none
theorem Lh(hp:cF pr)(z:List Item)(t:Test)(hz:ij z):nc pr 144 [aI.enc z,t.enc] [aI.d (pQ (rO z t)).1,.b (pQ (rO z t)).2]:=by
 have h1:=iU hp z hz;have h2:=fun(x:Item)(hx:x∈z)=>Ol hp t x.row (hz.2 x hx);have aQ:rO z t=rO z t:=rfl;conv at aQ=>rhs;unfold rO
 generalize rO z t=res at aQ⊢;have hl:=hz.1;refine gT hp rfl ?_;have S:=aj.nil [];conv=>whnf
 intro k1 a1 eg er;replace S:=S.alloc eg er;conv=>whnf
 refine⟨_,h1 _,?_⟩;conv=>whnf
 refine ae (fun g1=>?_) (fun g1=>?_)
 ·rw[g1,aay]at aQ;conv=>whnf
  replace S:=aj.lJ 2 S;refine dQ (fun m tm hp=>∃(j:Nat)(D:af)(F:List Nat),j+m=z.length/\tm 6=D/\tm 7=i64 (j:Nat)/\aj hp [.jA 2 ((dt [] ((z.take j).filter fun x=>(jZ t x.row).1)).map Item.d) D F,.row k1 (.box t.enc)]/\((z.take j).all (fun x=>(jZ t x.row).2)=true)) (fun m tm hq bG hI=>?_) (z.length) ⟨0,.nil,[],by simp,rfl,rfl,S,(rfl)⟩;obtain⟨j,D,F,hj,e6,e7,S2,aF⟩:=hI;have k0:=bG 0 (by kernel_rfl);conv at k0=>rhs;whnf
  have k3:=bG 3 (by kernel_rfl);conv at k3=>rhs;whnf
  refine⟨[(0,_),(3,_),(6,_),(7,_)],⟨k0,k3,e6,e7,trivial⟩,?_⟩;clear bG k0 k3 e6 e7;replace S:=S2;clear S2;conv=>whnf
  have gA:j<4611686018427387904:=by simp[dB]at hl;omega
  refine ae (fun h1=>?_) (fun h1=>?_)
  ·have bp:j<z.length:=by simpa using h1
   have dw:(z.map Item.enc)[((j:Nat):Int).toNat]?=some (Item.enc z[j]):=by rw[aaa];simp[bp]
   have ht:=h2 _ (aac bp);have dN:=OH (fun x=>(jZ t x.row).1) bp;have fP:=Rt (fun x=>(jZ t x.row).2) bp;have ig:=T1 (Q:=fun x=>(jZ t x.row).2) bp;have DS:=wT (II (fun x=>(jZ t x.row).1) j hz);have hz2:=(II (fun x=>(jZ t x.row).1) j hz).1;have eQ:=hz.2 _ (aac bp);generalize z[j]=x at dw ht dN fP ig eQ;obtain⟨row,w⟩:=x;simp only at ht dN fP ig eQ;rw[aF,aay]at fP;rcases Xx:jZ t row with⟨a,b⟩;rw[Xx]at ht dN fP ig;simp only at ht dN fP ig;refine aC (S.row 1 rfl) ?_;conv=>whnf
   refine⟨_,dw,by omega,rfl,?_⟩;conv=>whnf
   refine⟨_,ht _,?_⟩
   cases b with
   |false=>
    have:res=none:=by rw[aQ,ig rfl];rfl
    subst this
    iterate 4
     all_goals(try(conv=>whnf))
     all_goals(first|(intro iK cp ee bf;replace S:=S.alloc ee bf)|(refine aC (S.row 0 rfl) ?_)|(refine⟨_,rfl,rfl,rfl,.inl ⟨_,S.row 0 rfl,rfl,?_⟩⟩;(conv=>whnf);intro cp bf;replace S:=S.w0 bf)|(refine ae (fun hb=>?_) (fun hb=>?_))|skip)
    all_goals(try(conv=>whnf))
    all_goals exact⟨_,rfl,_,_,_,rfl,kJ _⟩
   |true=>
    cases a with
    |false=>
     rw[if_neg (by simp)]at dN;conv=>whnf
     exact⟨m-1,by omega,j+1,D,F,by omega,rfl,aP j gA,by rw[dN];exact S,fP⟩
    |true=>
     rw[if_pos rfl]at dN;conv=>whnf
     refine⟨_,dw,by omega,rfl,?_⟩;conv=>whnf
     refine⟨_,dw,by omega,rfl,?_⟩;conv=>whnf
     refine l8 hp _ row w _ (by omega) DS.2 eQ S (fun h' _=>x7 h' row) fun v' h' F' S1=>?_;conv=>whnf
     exact⟨m-1,by omega,j+1,_,_,by omega,rfl,aP j gA,by rw[dN,tY];exact S1,fP⟩
  ·have bp:j=z.length:=by
    have: ¬j<z.length:=by simpa using h1
    omega
   subst bp;rw[aar]at S aF;rw[aF,if_pos rfl]at aQ;subst aQ;conv=>whnf
   exact⟨_,rfl,_,_,_,rfl,CN S true⟩
 ·rw[g1]at aQ;have:res=none:=by rw[aQ];rfl
  subst this;conv=>whnf
  exact⟨_,rfl,_,_,_,rfl,kJ _⟩
end Go.Proofs.YtfepbikckfehlaaGreat
set_option maxHeartbeats 4000000
namespace Go.Proofs.YtfepbikckfehlaaGreat
open Go Go.Am
variable{pr:bW}(hp:cF pr)
set_option maxRecDepth 100000
def U1:Option (List Int)->List Int×Bool
 |some z=>(z,true)
 |none=>([],false)
def cellsOf(cells:List Cell)(r:List Int):Option (List Int):=if cells.all (fun c=>(cellOf c r).2)then some (cells.map fun c=>(cellOf c r).1)else none
theorem kP{α β:Type}(f:α->β){z:List α}{j:Nat}(h:j<z.length):(z.take (j+1)).map f=(z.take j).map f++[f z[j]]:=by
 rw[dX h,aaD];rfl
theorem mS{α:Type}(Q:α->Bool){z:List α}{j:Nat}(h:j<z.length):(z.take (j+1)).all Q=((z.take j).all Q&&Q z[j]):=by
 rw[dX h,List.all_append];simp
theorem pj{α:Type}{Q:α->Bool}{z:List α}{j:Nat}(h:j<z.length)(hb:Q z[j]=false):z.all Q=false:=by
 rw[List.all_eq_false];exact⟨_,aac h,by rw[hb];simp⟩
theorem OI(hp:cF pr)(cells:List Cell)(r:List Int)(hl:cells.length<=dB)(hr:r.length<=dB):nc pr 153 [.sl (cells.map Cell.enc),.sl (r.map i64)] [iR.d (U1 (cellsOf cells r)).1,.b (U1 (cellsOf cells r)).2]:=by
 have h2:=fun c=>ya hp c r hr;have aQ:cellsOf cells r=cellsOf cells r:=rfl;conv at aQ=>rhs;unfold cellsOf
 generalize cellsOf cells r=res at aQ⊢;refine gT hp rfl ?_;have S:=aj.nil [];conv=>whnf
 replace S:=aj.nF i64 1 S;refine dQ (fun m tm hp=>∃(j:Nat)(D:af),j+m=cells.length/\tm 6=D/\tm 7=i64 (j:Nat)/\aj hp [.acc i64 1 ((cells.take j).map fun c=>(cellOf c r).1) D]/\((cells.take j).all (fun c=>(cellOf c r).2)=true)) (fun m tm hq bG hI=>?_) (cells.length) ⟨0,.nil,by simp,rfl,rfl,S,(rfl)⟩;obtain⟨j,D,hj,e6,e7,S2,aF⟩:=hI;have k0:=bG 0 (by kernel_rfl);conv at k0=>rhs;whnf
 have k1:=bG 1 (by kernel_rfl);conv at k1=>rhs;whnf
 refine⟨[(0,_),(1,_),(6,_),(7,_)],⟨k0,k1,e6,e7,trivial⟩,?_⟩;clear bG k0 k1 e6 e7;replace S:=S2;clear S2;conv=>whnf
 have gA:j<4611686018427387904:=by simp[dB]at hl;omega
 refine ae (fun h1=>?_) (fun h1=>?_)
 ·have bp:j<cells.length:=by simpa using h1
  have dw:(cells.map Cell.enc)[((j:Nat):Int).toNat]?=some (Cell.enc cells[j]):=by rw[aaa];simp[bp]
  have ht:=h2 cells[j];have dN:=kP (fun c=>(cellOf c r).1) bp;have fP:=mS (fun c=>(cellOf c r).2) bp;have ig:=pj (Q:=fun c=>(cellOf c r).2) bp;generalize cells[j]=c at dw ht dN fP ig;rw[aF,aay]at fP;rcases Xx:cellOf c r with⟨a,b⟩;rw[Xx]at ht dN fP ig;simp only at ht dN fP ig;obtain⟨k,ca,cb,n⟩:=c;conv=>whnf
  refine⟨_,dw,by omega,rfl,?_⟩;conv=>whnf
  refine⟨_,ht _,?_⟩
  cases b with
  |false=>
   have:res=none:=by rw[aQ,ig rfl];rfl
   subst this;conv=>whnf
   exact⟨_,rfl,_,_,_,rfl,iH (rI 1) (ve false),by simp⟩
  |true=>
   conv=>whnf
   intro pI pJ dT dU;replace S:=S.alloc dT dU;conv=>whnf
   refine⟨trivial,?_⟩;conv=>whnf
   refine⟨[_],bT (S.row 0 rfl),dI rfl rfl,?_⟩;replace S:=S.drop 0;dsimp only[List.eraseIdx]at S;refine qp (f:=i64) (x:=a) S (by simp[bB,dB]at*;omega) fun k2 Dc S2 _=>?_;conv=>whnf
   exact⟨m-1,by omega,j+1,_,by omega,rfl,aP j gA,by rw[dN];exact S2,fP⟩
 ·have bp:j=cells.length:=by
   have: ¬j<cells.length:=by simpa using h1
   omega
  subst bp;rw[aar]at S aF;rw[aF,if_pos rfl]at aQ;subst aQ;conv=>whnf
  exact⟨_,rfl,_,_,_,rfl,iH ((aj.kn S).get 0 rfl) (ve true),by rw[aaw];exact((aj.kn S).get' 0 _ rfl).2⟩
def qf(z:List Item):Option (List Item):=if dS z then some z else none
def Fo(z:List Item)(cells:List Cell):Option (List Item):=
 if dS z&&(decide (1<=cells.length)&&decide (cells.length<=6))&&z.all (fun x=>(cellsOf cells x.row).isSome)then qf (dt [] (z.map fun x=>⟨((cellsOf cells x.row).getD []),x.w⟩))else none
theorem Bz{z:List Item}{cells:List Cell}(hz:z.length<=dB)(hc:cells.length<=6):ij (z.map fun x=>(⟨((cellsOf cells x.row).getD []),x.w⟩:Item)):=by
 refine⟨by simpa using hz,fun y hy=>?_⟩;obtain⟨x,_,rfl⟩:=aaO.1 hy;simp only;unfold cellsOf;split
 ·simp[dB];omega
 ·simp
theorem Ru(hp:cF pr)(z:List Item)(cells:List Cell)(hz:ij z)(hc:cells.length<=dB):nc pr 145 [aI.enc z,.sl (cells.map Cell.enc)] [aI.d (pQ (Fo z cells)).1,.b (pQ (Fo z cells)).2]:=by
 have h1:=iU hp z hz;have h2:=fun(x:Item)(hx:x∈z)=>OI hp cells x.row hc (hz.2 x hx);have aQ:Fo z cells=Fo z cells:=rfl;conv at aQ=>rhs;unfold Fo
 generalize Fo z cells=res at aQ⊢;have hl:=hz.1;refine gT hp rfl ?_;have S:=aj.nil [];conv=>whnf
 refine⟨_,h1 _,?_⟩;conv=>whnf
 refine ae (fun g1=>?_) (fun g1=>?_)
 rotate_left
 ·rw[g1]at aQ;have:res=none:=by rw[aQ];rfl
  subst this;conv=>whnf
  exact⟨_,rfl,_,_,_,rfl,kJ _⟩
 rw[g1]at aQ;conv=>whnf
 refine ae (fun g2=>?_) (fun g2=>?_)
 ·have:res=none:=by rw[aQ,if_neg];simp at g2;simp;omega
  subst this;conv=>whnf
  exact⟨_,rfl,_,_,_,rfl,kJ _⟩
 conv=>whnf
 refine ae (fun g3=>?_) (fun g3=>?_)
 ·have:res=none:=by rw[aQ,if_neg];simp at g3;simp;omega
  subst this;conv=>whnf
  exact⟨_,rfl,_,_,_,rfl,kJ _⟩
 have MR:1<=cells.length/\cells.length<=6:=by simp at g2 g3;omega
 rw[show(true&&(decide (1<=cells.length)&&decide (cells.length<=6)))=true by simp[MR],aay]at aQ;conv=>whnf
 replace S:=aj.lJ 2 S;refine dQ (fun m tm hp=>∃(j:Nat)(D:af)(F:List Nat),j+m=z.length/\tm 6=D/\tm 7=i64 (j:Nat)/\aj hp [.jA 2 ((dt [] ((z.take j).map fun x=>⟨((cellsOf cells x.row).getD []),x.w⟩)).map Item.d) D F]/\((z.take j).all (fun x=>(cellsOf cells x.row).isSome)=true)) (fun m tm hq bG hI=>?_) (z.length) ⟨0,.nil,[],by simp,rfl,rfl,S,(rfl)⟩;obtain⟨j,D,F,hj,e6,e7,S2,aF⟩:=hI;have k0:=bG 0 (by kernel_rfl);conv at k0=>rhs;whnf
 have k1:=bG 1 (by kernel_rfl);conv at k1=>rhs;whnf
 refine⟨[(0,_),(1,_),(6,_),(7,_)],⟨k0,k1,e6,e7,trivial⟩,?_⟩;clear bG k0 k1 e6 e7;replace S:=S2;clear S2;conv=>whnf
 have gA:j<4611686018427387904:=by simp[dB]at hl;omega
 refine ae (fun h1=>?_) (fun h1=>?_)
 ·have bp:j<z.length:=by simpa using h1
  have dw:(z.map Item.enc)[((j:Nat):Int).toNat]?=some (Item.enc z[j]):=by rw[aaa];simp[bp]
  have ht:=h2 _ (aac bp);have dN:=kP (fun x:Item=>(⟨((cellsOf cells x.row).getD []),x.w⟩:Item)) bp;have fP:=mS (fun x:Item=>(cellsOf cells x.row).isSome) bp;have ig:=pj (Q:=fun x:Item=>(cellsOf cells x.row).isSome) bp;have wJ:=Bz (z:=z.take j) (cells:=cells) (by simp;omega) MR.2;have DS:=wT wJ;have hz2:((z.take j).map fun x=>(⟨((cellsOf cells x.row).getD []),x.w⟩:Item)).length<=z.length:=by simp;omega
  have Dq:((cellsOf cells z[j].row).getD []).length<=dB:=by
   have:=(Bz (z:=z) (cells:=cells) hl MR.2).2 _ (List.mem_map_of_mem (aac bp));exact this
  generalize z[j]=x at dw ht dN fP ig Dq;obtain⟨row,w⟩:=x;simp only at ht dN fP ig Dq;rw[aF,aay]at fP;rcases Xx:cellsOf cells row with _|rr
  ·rw[Xx]at ht dN fP ig;have:res=none:=by rw[aQ,ig rfl];rfl
   subst this;conv=>whnf
   refine⟨_,dw,by omega,rfl,?_⟩;conv=>whnf
   refine iG S ht rfl rfl fun vs q F1 S1=>?_;obtain⟨v1,F2,rfl,S2⟩:=aj.lC S1;conv=>whnf
   exact⟨_,rfl,_,_,_,rfl,kJ _⟩
  ·rw[Xx]at ht dN fP ig Dq;conv=>whnf
   refine⟨_,dw,by omega,rfl,?_⟩;conv=>whnf
   refine iG S ht rfl rfl fun vs q F1 S1=>?_;obtain⟨v1,F2,rfl,S2⟩:=aj.lC S1;clear S S1;have S:=S2.swap;clear S2;conv=>whnf
   refine⟨_,dw,by omega,rfl,?_⟩;conv=>whnf
   refine l8 hp _ rr w _ (by omega) DS.2 Dq S (fun h' S'=>iR.snap (S'.get 0 rfl)) fun v' h' F' S1=>?_;conv=>whnf
   exact⟨m-1,by omega,j+1,_,_,by omega,rfl,aP j gA,by rw[dN,tY];exact S1.drop 1,fP⟩
 ·have bp:j=z.length:=by
   have: ¬j<z.length:=by simpa using h1
   omega
  subst bp;rw[aar]at S aF;rw[aF,if_pos rfl]at aQ;have uj:=wT (Bz (z:=z) (cells:=cells) hl MR.2);conv=>whnf
  refine qR hp ⟨aa3 uj.1 (by simpa using hl),uj.2⟩ S (fun g=>?_) (fun g=>?_)
  ·have jk:=aQ.trans (if_pos g);subst jk;conv=>whnf
   exact⟨_,rfl,_,_,_,rfl,CN S true⟩
  ·have jk:=aQ.trans (if_neg (by rw[g];simp));subst jk;conv=>whnf
   exact⟨_,rfl,_,_,_,rfl,kJ _⟩
theorem pk{z:List Item}(h:dS z=true):qf z=some z:=if_pos h
theorem po{z:List Item}(h:dS z=false):qf z=none:=if_neg (by rw[h];simp)
def np(a b:List Item):Option (List Item):=if dS a&&dS b then qf (dt a b)else none
theorem T3{a b:List Item}(ha:dS a=true)(hb:dS b=true):ij (dt a b)/\(dt a b).length<=200:=by
 obtain⟨g1,g2⟩:=dA ha;obtain⟨g3,g4⟩:=dA hb;have:=gx (a:=a) (b:=b) (fun x hx=>by have:=g2 x hx;simp[dB];omega) (fun x hx=>by have:=g4 x hx;simp[dB];omega);exact⟨⟨by simp[dB];omega,this.2⟩,by omega⟩
theorem Fq(hp:cF pr)(a b:List Item)(ha:ij a)(hb:ij b):nc pr 147 [aI.enc a,aI.enc b] [aI.d (pQ (np a b)).1,.b (pQ (np a b)).2]:=by
 have h1:=iU hp a ha;have h2:=iU hp b hb;have h3:dS a=true->dS b=true->u0 pr 56 [aI.enc a,aI.enc b] 2 ((dt a b).map Item.d):=fun g1 g2=>l9 hp a b ha hb (by have:=(dA g1).1;have:=(dA g2).1;simp[dB];omega);have h4:=@T3 a b;have aQ:np a b=np a b:=rfl;conv at aQ=>rhs;unfold np
 generalize np a b=res at aQ⊢;refine gT hp rfl ?_;have S:=aj.nil [];conv=>whnf
 refine⟨_,h1 _,?_⟩;conv=>whnf
 refine ae (fun g1=>?_) (fun g1=>?_)
 rotate_left
 ·rw[g1]at aQ;have jk:res=none:=aQ;subst jk;conv=>whnf
  exact⟨_,rfl,_,_,_,rfl,kJ _⟩
 conv=>whnf
 refine⟨_,h2 _,?_⟩;conv=>whnf
 refine ae (fun g2=>?_) (fun g2=>?_)
 rotate_left
 ·rw[g1,g2]at aQ;have jk:res=none:=aQ;subst jk;conv=>whnf
  exact⟨_,rfl,_,_,_,rfl,kJ _⟩
 rw[g1,g2]at aQ;conv=>whnf
 refine dG S (h3 g1 g2) rfl rfl fun v1 q1 F1 S1=>?_;conv=>whnf
 refine qR hp (h4 g1 g2).1 S1 (fun g=>?_) (fun g=>?_)
 ·have jk:=aQ.trans (pk g);subst jk;conv=>whnf
  exact⟨_,rfl,_,_,_,rfl,CN S1 true⟩
 ·have jk:=aQ.trans (po g);subst jk;conv=>whnf
  exact⟨_,rfl,_,_,_,rfl,kJ _⟩
def rP(z:List Item):List Item:=(z.filter fun x=>decide (0<x.w)).map fun x=>⟨x.row,1⟩
theorem rQ{α:Type}(P:α->Bool){z:List α}{j:Nat}(h:j<z.length):(z.take (j+1)).filter P=if P z[j]then(z.take j).filter P++[z[j]]else(z.take j).filter P:=by
 rw[dX h,List.filter_append];split<;>simp_all
theorem wU(z:List Item)(j:Nat):(rP (z.take j)).length<=z.length:=by
 unfold rP;rw[aat];exact aa3 (abH _ _) (by simp;omega)
theorem IJ{z:List Item}(hz:ij z):ij (rP z):=by
 refine⟨?_,fun y hy=>?_⟩
 ·have:=wU z z.length;rw[aar]at this;exact aa3 this hz.1
 ·obtain⟨x,hx,rfl⟩:=aaO.1 hy;exact hz.2 x (List.mem_filter.1 hx).1
theorem MS(hp:cF pr)(z:List Item)(hz:ij z):u0 pr 157 [aI.enc z] 2 ((rP z).map Item.d):=by
 have hl:=hz.1;refine s9 hp rfl ?_;have S:=aj.nil [];conv=>whnf
 replace S:=aj.lJ 2 S;refine dQ (fun m tm hp=>∃(j:Nat)(D:af)(F:List Nat),j+m=z.length/\tm 3=D/\tm 4=i64 (j:Nat)/\aj hp [.jA 2 ((rP (z.take j)).map Item.d) D F]) (fun m tm hq bG hI=>?_) (z.length) ⟨0,.nil,[],by simp,rfl,rfl,S⟩;obtain⟨j,D,F,hj,e3,e4,S2⟩:=hI;have k0:=bG 0 (by kernel_rfl);conv at k0=>rhs;whnf
 refine⟨[(0,_),(3,_),(4,_)],⟨k0,e3,e4,trivial⟩,?_⟩;clear bG k0 e3 e4;replace S:=S2;clear S2;conv=>whnf
 have gA:j<4611686018427387904:=by simp[dB]at hl;omega
 refine ae (fun h1=>?_) (fun h1=>?_)
 ·have bp:j<z.length:=by simpa using h1
  have dw:(z.map Item.enc)[((j:Nat):Int).toNat]?=some (Item.enc z[j]):=by rw[aaa];simp[bp]
  have dN:rP (z.take (j+1))=if decide (0<z[j].w)then rP (z.take j)++[⟨z[j].row,1⟩]else rP (z.take j):=by
   unfold rP;rw[rQ _ bp];split<;>simp
  have hlen:=wU z j;have eZ:=qL hp z[j].row (hz.2 _ (aac bp));generalize z[j]=x at dw dN eZ;obtain⟨row,w⟩:=x;simp only at dN eZ;conv=>whnf
  refine⟨_,dw,by omega,rfl,?_⟩;conv=>whnf
  refine ae (fun g1=>?_) (fun g1=>?_)
  ·rw[if_pos (by simpa using g1)]at dN;conv=>whnf
   refine⟨_,dw,by omega,rfl,?_⟩;conv=>whnf
   refine fp S eZ rfl rfl fun A q1 F1 o1 S1=>?_;replace S:=S1;clear S1;conv=>whnf
   refine ep o1.cell.1 ?_;conv=>whnf
   intro pI pJ dT dU;replace S:=S.alloc dT dU;conv=>whnf
   refine⟨trivial,?_⟩;conv=>whnf
   refine⟨[_],bT (S.row 0 rfl),fi rfl (bM o1.cell.2 rfl),?_⟩;replace S:=S.drop 0;dsimp only[List.eraseIdx]at S;replace S:=(rH (w:=1) S).swap;refine lp S (by simp[bB,dB]at*;omega) fun k_ h2 F2 S2=>?_;conv=>whnf
   exact⟨m-1,by omega,j+1,_,_,by omega,rfl,aP j gA,by rw[dN,aaD];exact S2⟩
  ·rw[if_neg (by simpa using g1)]at dN;conv=>whnf
   exact⟨m-1,by omega,j+1,_,_,by omega,rfl,aP j gA,by rw[dN];exact S⟩
 ·have bp:j=z.length:=by
   have: ¬j<z.length:=by simpa using h1
   omega
  subst bp;rw[aar]at S;conv=>whnf
  exact⟨_,rfl,_,_,_,rfl,S.get 0 rfl,(S.get' 0 _ rfl).2⟩
def DT(r:List Int):List Item->Int
 | []=>0
 |x::xs=>if fL x.row r then x.w else DT r xs
def Li(z:List Item)(r:List Int):Int:=if dS z then DT r z else 0
theorem T4(hp:cF pr)(z:List Item)(r:List Int)(hz:ij z)(hr:r.length<=dB):dK pr 167 [aI.enc z,.sl (r.map i64)] (i64 (Li z r)):=by
 have h1:=iU hp z hz;have h2:=fun(x:Item)(hx:x∈z)=>pe hp x.row r (hz.2 x hx) hr;have hl:=hz.1;have aQ:Li z r=Li z r:=rfl;conv at aQ=>rhs;unfold Li
 generalize Li z r=res at aQ⊢;refine kz hp rfl rfl ?_;have S:=aj.nil [];conv=>whnf
 refine dQ (fun m tm hp=>∃(j:Nat),j+m=z.length/\tm 5=i64 (j:Nat)/\(DT r z=DT r (z.drop j))) (fun m tm hq bG hI=>?_) (z.length) ⟨0,by simp,rfl,(rfl)⟩;obtain⟨j,hj,e5,aF⟩:=hI;have k0:=bG 0 (by kernel_rfl);conv at k0=>rhs;whnf
 have k1:=bG 1 (by kernel_rfl);conv at k1=>rhs;whnf
 refine⟨[(0,_),(1,_),(5,_)],⟨k0,k1,e5,trivial⟩,?_⟩;clear bG k0 k1 e5;have S:aj hq []:=aj.nil hq;conv=>whnf
 have gA:j<4611686018427387904:=by simp[dB]at hl;omega
 refine ae (fun PH=>?_) (fun PH=>?_)
 ·have bp:j<z.length:=by simpa using PH
  have dw:(z.map Item.enc)[((j:Nat):Int).toNat]?=some (Item.enc z[j]):=by rw[aaa];simp[bp]
  rw[aaf bp]at aF;have ht:=h2 _ (aac bp);generalize z[j]=x at dw aF ht;obtain⟨row,w⟩:=x;replace aF:DT r z=(if fL row r then w else DT r (z.drop (j+1))):=aF;simp only at ht;conv=>whnf
  refine⟨_,h1 _,?_⟩;conv=>whnf
  refine ae (fun g1=>?_) (fun g1=>?_)
  ·rw[if_pos g1]at aQ;conv=>whnf
   refine⟨_,dw,by omega,rfl,?_⟩;conv=>whnf
   refine⟨_,ht _,?_⟩;conv=>whnf
   refine ae (fun g2=>?_) (fun g2=>?_)
   ·rw[if_pos g2]at aF;conv=>whnf
    refine⟨_,dw,by omega,rfl,?_⟩;conv=>whnf
    exact eJ (by rw[aQ,aF])
   ·rw[if_neg (by rw[g2];simp)]at aF;conv=>whnf
    exact⟨m-1,by omega,j+1,by omega,aP j gA,aF⟩
  ·rw[if_neg (by rw[g1];simp)]at aQ;conv=>whnf
   exact eJ aQ.symm
 ·have bp:j=z.length:=by
   have: ¬j<z.length:=by simpa using PH
   omega
  subst bp;rw[aal]at aF;conv=>whnf
  exact eJ (by rw[aQ,aF];split<;>rfl)
def abW(x:Item):Item:=⟨x.row,IntKind.i64.wrap (0-x.w)⟩
def tf(z:List Item):List Item:=z.map abW
def pt(a b:List Item):List Item:=dt a (tf b)
theorem BA{z:List Item}(hz:ij z):ij (tf z):=⟨by simpa[tf]using hz.1,fun y hy=>by obtain⟨x,hx,rfl⟩:=aaO.1 hy;exact hz.2 x hx⟩
theorem OJ(z:List Item)(j:Nat):tf (z.take j)=(tf z).take j:=by simp[tf,List.map_take]
theorem DU(hp:cF pr)(a b:List Item)(ha:ij a)(hb:ij b)(hl:a.length+b.length<=dB):u0 pr 156 [aI.enc a,aI.enc b] 2 ((pt a b).map Item.d):=by
 have h1:=l7 hp a ha;refine s9 hp rfl ?_;have S:=aj.nil [];conv=>whnf
 refine dG S h1 rfl rfl fun v1 q1 F1 S1=>?_;replace S:=S1;clear S1;conv=>whnf
 refine dQ (fun m tm hp=>∃(j:Nat)(D:af)(F:List Nat),j+m=b.length/\tm 5=D/\tm 6=i64 (j:Nat)/\aj hp [.jA 2 ((pt a (b.take j)).map Item.d) D F]) (fun m tm hq bG hI=>?_) (b.length) ⟨0,v1,F1,by simp,rfl,rfl,S⟩;obtain⟨j,D,F,hj,e5,e6,S2⟩:=hI;have k1:=bG 1 (by kernel_rfl);conv at k1=>rhs;whnf
 refine⟨[(1,_),(5,_),(6,_)],⟨k1,e5,e6,trivial⟩,?_⟩;clear bG k1 e5 e6;replace S:=S2;clear S2;conv=>whnf
 have gA:j<4611686018427387904:=by simp[dB]at hl;omega
 refine ae (fun h1=>?_) (fun h1=>?_)
 ·have bp:j<b.length:=by simpa using h1
  have dw:(b.map Item.enc)[((j:Nat):Int).toNat]?=some (Item.enc b[j]):=by rw[aaa];simp[bp]
  have uj:=gx (a:=a) (b:=tf (b.take j)) ha.2 (by rw[OJ];exact fun x hx=>(BA hb).2 x (abz hx))
  have dN:pt a (b.take (j+1))=hY (pt a (b.take j)) b[j].row (IntKind.i64.wrap (0-b[j].w)):=by
   rw[pt,dX bp,tf,aaD];exact tY _ _ _
  have Mj:(tf (b.take j)).length<=b.length:=by simp[tf];omega
  have eQ:=hb.2 _ (aac bp);generalize b[j]=x at dw dN eQ;obtain⟨row,w⟩:=x;conv=>whnf
  refine⟨_,dw,by omega,rfl,?_⟩;conv=>whnf
  refine⟨_,dw,by omega,rfl,?_⟩;conv=>whnf
  refine l8 hp _ row (IntKind.i64.wrap (0-w)) _ (by have:=uj.1;omega) uj.2 eQ S (fun h' _=>x7 h' row) fun v' h' F' S1=>?_;conv=>whnf
  exact⟨m-1,by omega,j+1,_,_,by omega,rfl,aP j gA,by rw[dN];exact S1⟩
 ·have bp:j=b.length:=by
   have: ¬j<b.length:=by simpa using h1
   omega
  subst bp;rw[aar]at S;conv=>whnf
  exact⟨_,rfl,_,_,_,rfl,S.get 0 rfl,(S.get' 0 _ rfl).2⟩
def ju(z d:List Item):Option (List Item):=match np z d with
 |some now=>qf (pt (rP now) (rP z))
 |none=>none
theorem Ft(hp:cF pr)(z d:List Item)(hz:ij z)(hd:ij d):nc pr 148 [aI.enc z,aI.enc d] [aI.d (pQ (ju z d)).1,.b (pQ (ju z d)).2]:=by
 have h1:=Fq hp z d hz hd;have h2:=MS hp z hz
 have ZW: ∀now,np z d=some now->dS z=true/\dS now=true:=fun now h=>by
  unfold np at h;split at h
  ·rename_i g;simp only[xz]at g;unfold qf at h;split at h
   ·cases h;exact⟨g.1,by assumption⟩
   ·cases h
  ·cases h
 have aQ:ju z d=ju z d:=rfl;conv at aQ=>rhs;unfold ju
 generalize ju z d=res at aQ⊢;rcases hx:np z d with _|now
 ·rw[hx]at h1 aQ;subst aQ;refine gT hp rfl ?_;have S:=aj.nil [];conv=>whnf
  refine iG S h1 rfl rfl fun vs q F1 S1=>?_;obtain⟨v1,F2,rfl,S2⟩:=aj.lC S1;conv=>whnf
  exact⟨_,rfl,_,_,_,rfl,kJ _⟩
 ·obtain⟨g1,g2⟩:=ZW now hx;rw[hx]at h1 aQ;have Rv:=dC g2;have h3:=MS hp now Rv;have GB:=IJ hz;have Jv:=IJ Rv;have Jy:=wU z z.length;have Cu:=wU now now.length;rw[aar]at Jy Cu;have ZQ:=(dA g1).1;have hl4:=(dA g2).1;have h4:=DU hp (rP now) (rP z) Jv GB (by simp[dB];omega);have h5:=gx (a:=rP now) (b:=tf (rP z)) Jv.2 (BA GB).2;have h6:(tf (rP z)).length<=100:=by simp[tf];omega
  have h7:ij (pt (rP now) (rP z)):=⟨by have:=h5.1;unfold pt;simp[dB];omega,h5.2⟩;refine gT hp rfl ?_;have S:=aj.nil [];conv=>whnf
  refine iG S h1 rfl rfl fun vs q F1 S1=>?_;obtain⟨v1,F2,rfl,S2⟩:=aj.lC S1;conv=>whnf
  refine dG S2 h3 rfl (rG (aI.iT (S2.get 0 rfl))) fun v2 q2 F3 S3=>?_;conv=>whnf
  refine dG S3 h2 rfl rfl fun v3 q3 F4 S4=>?_;conv=>whnf
  refine dG S4 h4 rfl (lj (aI.iT ((aj.ek (S4.drop 0)).get 0 rfl)) (qQ S4)) fun v4 q4 F5 S5=>?_;conv=>whnf
  refine qR hp h7 S5 (fun g=>?_) (fun g=>?_)
  ·have jk:=aQ.trans (pk g);subst jk;conv=>whnf
   exact⟨_,rfl,_,_,_,rfl,CN S5 true⟩
  ·have jk:=aQ.trans (po g);subst jk;conv=>whnf
   exact⟨_,rfl,_,_,_,rfl,kJ _⟩
end Go.Proofs.YtfepbikckfehlaaGreat

/- STORES ARE COMPARED EXACTLY: TWO DRAWN STORES THAT ARE ONE READ THE SAME; A STORE WITH ANOTHER TIME, OR WITHOUT A VIEW, IS ANOTHER ONE, FOR ALL INPUTS. No condition. -/
import Derived.Test.YtfepbikckfehlaaGreatGH43
import Derived.Test.YtfepbikckfehlaaGreatGH30
import Derived.Test.YtfepbikckfehlaaGreatGH31
import Derived.Test.YtfepbikckfehlaaGreatGH27
import Derived.ProofKit
set_option linter.unusedVariables false
set_option linter.unusedSimpArgs false
set_option maxHeartbeats 4000000
set_option pp.deepTerms false
set_option pp.deepTerms.threshold 60
namespace Go.Proofs.YtfepbikckfehlaaGreat
open Go Go.Am
variable{pr:bW}(hp:cF pr)
set_option maxRecDepth 100000
theorem LM{cf:eP}{tm:Nat->af}{h:aG}{t:TypeId}{a:Operand}{id i off sz:Nat}{es:List af}{x v v':af}(ha:ev cf.G tm a=some (.ptr id i off))(hx:h[id]?=some (.arr sz es))(hi:es[i]?=some x)(hp:fZ cf.P t x off=some v)(he:v'=v):
  aV cf tm h (.load t a)=some (.val v' h):=by
   subst he;simp only[aV,ha,ku,hx,hi,hp,aaL]
theorem Zy{cf:eP}{tm:Nat->af}{h:aG}{t:TypeId}{a b:Operand}{id s len sz:Nat}{κ:IntKind}{i:Int}{p:TypeId}{es:List af}{v:af}(ha:ev cf.G tm a=some (.own id s len))(hb:ev cf.G tm b=some (.int κ i))(ht:my cf.P t=some (p,sz))(hx:h[id]?=some (.arr sz es))(hi:0<=i/\i<len)(he:v= .ptr id (s+i.toNat) 0):
  aV cf tm h (.indexAddr t a b)=some (.val v h):=by
   subst he;simp only[aV,ha,hb,vH,ht,hx];rw[if_pos ⟨hi.1,hi.2,trivial⟩];rfl
def yz(s:bN):Prop:=s.d.fA<=500000/\ -100<=s.now/\s.now<=100/\0<=s.keep/\s.keep<=100
theorem cq.Vl{h:aG}{d:bg}{v:af}{F:List Nat}(ho:cq h d v F)(hd:d.dep<=4000010):cI h 4194303 v=some d.enc:=((wE (h:=h) _).1 d v F 4194302 (aah _) ho (by omega)).1
theorem Sh{h:aG}{Gj:Nat}{aH:List (List Item)}{aL:List View}{now keep:Int}{T V:af}{F2 F3:List Nat}(hw:h[Gj]?=some (.arr 1 [i64 2,i64 2]))(hT:cq h (.a 1 (aH.map aI.da)) T F2)(hV:cq h (.a 25 (aL.map View.da)) V F3)(hd: ∀v∈aL,v.d.fA<=1048576):
  Am.snap h (.agg [.own Gj 0 1,T,V,i64 now,i64 keep])=some (bN.enc ⟨[2],aH,aL,now,keep⟩):=by
   have e1:cI h 4194303 (.own Gj 0 1)=some (.sl [i64 2]):=by
    show(match h[Gj]? with
     |some (.arr _ es)=>if 0+1<=es.length then(di (cI h 4194302) ((es.drop 0).take 1)).map af.sl else none
     |_=>none)=_
    rw[hw];rfl
   have d2:bg.dO (aH.map aI.da)<=16:=nt fun d hd=>by obtain⟨z,_,rfl⟩:=aaO.1 hd;exact aI.tD z
   have d3:bg.dO (aL.map View.da)<=4000001:=nt fun d JA=>by obtain⟨z,hz,rfl⟩:=aaO.1 JA;exact tD (hd z hz)
   have e2:=cq.Vl hT (by simp only[bg.dep];omega);have e3:=cq.Vl hV (by simp only[bg.dep];omega);have h1:bg.dv (aH.map aI.da)=aH.map aI.enc:=jC aI.iY _;have h2:bg.dv (aL.map View.da)=aL.map View.enc:=jC View.iY _;simp only[bg.enc,h1]at e2;simp only[bg.enc,h2]at e3;show(di (cI h 4194303) [.own Gj 0 1,T,V,i64 now,i64 keep]).map af.agg=_;have e4: ∀n,cI h 4194303 (i64 n)=some (i64 n):=fun n=>rfl;simp only[di,e1,e2,e3,e4];rfl
theorem Ul{n:Nat}{z:List Item}(h:z.length<=n/\ ∀x∈z,x.row.length<=10):(aI.d z).fA<=11*n:=by
 have key: ∀xs:List Item,(∀x∈xs,x.row.length<=10)->bg.fV (xs.map Item.d)<=10*xs.length:=by
  intro xs
  induction xs with
  |nil=>intro _;simp[bg.fV]
  |cons x xs ih=>
   intro hx;have:=ih fun y hy=>hx y (by simp[hy]);have h2:=hx x (by simp);simp only[aao,bg.fV,Item.fA,aak];omega
 have:=key z h.2;have:=h.1;simp only[aI.d,bg.fA,aat];omega
theorem Ck(z:List Item)(x:Item):(aI.d (z++[x])).fA=(aI.d z).fA+1+x.row.length:=by
 have key: ∀xs:List Item,bg.fV ((xs++[x]).map Item.d)=bg.fV (xs.map Item.d)+x.row.length:=by
  intro xs
  induction xs with
  |nil=>simp[bg.fV,Item.fA]
  |cons y ys ih=>simp only[abD,aao,bg.fV,ih];omega
 simp only[aI.d,bg.fA,aat,key,abv,aak,abj];omega
theorem Cl(hp:cF pr){h:aG}{L:List Chunk}{k n:Nat}(S:aj h (.rd k n::L))(hn:n<=70000000000){K:ef->Prop}
  (hK: ∀(s:bN) h',yz s->aj h' (.rd k (n+100000)::L)->K (.ret s.enc h')):
  ∃r,cj (dZ pr) (call (dZ pr)) 17 [.ptr k 0 0] h=some r/\K r:=by
   refine LF (m:=n+100000) (P:=fun x=>∃s:bN,x=s.enc/\yz s) rfl (hp.out _ rfl) S (fun L S=>?_) fun x h' hx S1=>by
    obtain⟨s,rfl,h1⟩:=hx;exact hK s h' h1 S1
   clear hK K
   have fin: ∀{h2:aG}{n2:Nat}{d:bg}{v:af}{F:List Nat}{s:bN},n2<=n+100000->d.enc=s.enc->d.dep<=4000000->yz s->aj h2 (.dL d v F:: .rd k n2::L)->
     ∃v' h1 x CR,ef.ret v h2= .ret v' h1/\aj h1 (CR:: .rd k (n+100000)::L)/\(∀h',CR.P h'->Am.snap h' v'=some x)/\ ∃s:bN,x=s.enc/\yz s:=by
      intro h2 n2 d v F s W1 he hd jP S2;exact⟨_,_,_,_,rfl,(aj.fm S2.swap W1).swap,fun h' ho=>cq.snap (show cq h' d v F from ho) (by omega),s,he,jP⟩
   have Zz:=O3 hp;conv=>whnf
   intro k1 a1 eg er;replace S:=(S.alloc eg er).swap;conv=>whnf
   refine fp S Zz rfl rfl fun v q1 F1 o1 S1=>?_;clear S Zz;have S:=S1;clear S1;obtain⟨W,T,V,rfl,gN,_,_⟩:=jy o1;clear o1;conv=>whnf
   intro k2 a2 jS jb;replace S:=S.alloc jS jb;conv=>whnf
   refine⟨[W,T,V,i64 _,i64 _],(by kernel_rfl),rfl,gN,.inl ⟨_,S.row 0 rfl,rfl,?_⟩⟩;conv=>whnf
   intro h1 Sg;replace S:=S.w0 Sg;conv=>whnf
   replace S:=S.q2;replace S:=S.q2;replace S:=S.swap;refine dV hp _ S (by omega) fun c h2 hc S1=>?_;replace S:=S1;clear S1;have MR:0<=c/\c<=8:=by unfold Sy at hc;omega
   conv=>whnf
   refine dQ (fun m tm hp=>∃(j:Nat)(v:af)(F:List Nat)(s:bN)(e:Int),j+m=c.toNat/\tm 4=i64 e/\aj hp (.rd k (n+1+2000*j):: .dL s.da v F:: .row k2 (.box v):: .row k1 (.box rX)::L)/\(uv s)/\(e=c-(j:Int))) (fun m tm hq bG hI=>?_) (c.toNat) ⟨0,.agg [W,T,V,i64 0,i64 0],F1,Ca,c,by simp,rfl,S,(LI),(by simp)⟩;obtain⟨j,v,F,s,e,hj,e4,S2,hs,he⟩:=hI;have k0:=bG 0 (by kernel_rfl);conv at k0=>rhs;whnf
   have k2:=bG 2 (by kernel_rfl);conv at k2=>rhs;whnf
   have k3:=bG 3 (by kernel_rfl);conv at k3=>rhs;whnf
   refine⟨[(0,_),(2,_),(3,_),(4,_)],⟨k0,k2,k3,e4,trivial⟩,?_⟩;clear bG k0 k2 k3 e4;replace S:=S2;clear S2;conv=>whnf
   refine ae (fun g1=>?_) (fun g1=>?_)
   ·obtain⟨W,T,V,rfl,gN,_,_⟩:=jy (show cq _ _ v F from S.get 1 rfl);refine aC (S.row 2 rfl) ?_;conv=>whnf
    refine Sf hp hs S (by omega) fun s' v' F' h3 Mh S1=>?_;replace S:=S1;clear S1;obtain⟨W2,T2,V2,rfl,Um,_,_⟩:=jy (show cq _ _ v' F' from S.get 1 rfl);conv=>whnf
    refine⟨[W2,T2,V2,i64 _,i64 _],(by kernel_rfl),rfl,Um,.inl ⟨_,S.row 2 rfl,rfl,?_⟩⟩;conv=>whnf
    intro h4 xk;replace S:=S.w2 xk;conv=>whnf
    exact⟨m-1,by simp at g1;omega,j+1,_,_,s',_,by simp at g1;omega,rfl,aj.fm S (by omega),Mh,by rw[aaC];simp at g1;omega⟩
   ·conv=>whnf
    have hjc:j<=8:=by simp at g1;omega
    refine dV hp _ S (by omega) fun x h3 hx S1=>?_;replace S:=S1;clear S1;conv=>whnf
    have hi:=fa.1 hs.1;have vq:=Cg hs;have hwd:=hs.2.1;obtain⟨bc,aH,aL,now,keep⟩:=s;dsimp only at hi hwd;subst hwd;replace S:=S.q1;obtain⟨W,T,V,F1,F2,F3,rfl,cW,cT,cV,S2⟩:=aj.iZ S;clear S;have S:=S2;clear S2;have hnw:0<=now/\now<=40/\0<=keep/\keep<=40:=by omega
    replace S:=S.q3;have hW:=CU (show cq _ (.a 1 ([2,2].map bg.i)) W F1 from S.get 1 rfl);have hT:=CU (show cq _ (.a 1 (aH.map aI.da)) T F2 from S.get 2 rfl);have hV:=CU (show cq _ (.a 25 (aL.map View.da)) V F3 from S.get 3 rfl)
    -- S: rd,W,T,V,k2,k1
    refine ae (fun g2=>?_) (fun g2=>?_)
    ·conv=>whnf
     intro k3 a3 mF lI;replace S:=(S.alloc mF lI).swap;conv=>whnf
     refine nZ hp [-1,40,41] (by simp) (by simp) S (by omega) fun y h4 hy S1=>?_;replace S:=S1;clear S1;conv=>whnf
     refine⟨_,rfl,rfl,rfl,.inl ⟨_,S.row 4 rfl,rfl,?_⟩⟩;conv=>whnf
     intro h5 qh;replace S:=S.w4 qh;refine aC (S.row 4 rfl) ?_;conv=>whnf
     refine⟨[W,T,V,i64 y,i64 keep],(by kernel_rfl),rfl,(bM cW (bM cT (bM cV rfl))),.inl ⟨_,S.row 5 rfl,rfl,?_⟩⟩;conv=>whnf
     intro h6 gU;replace S:=S.w5 gU;conv=>whnf
     have S2:=(S.drop 4).drop 4;dsimp only[List.eraseIdx]at S2;replace S2:=aj.ik (now:=y) (keep:=keep) (((S2.front 3 rfl).front 3 rfl).front 3 rfl);exact⟨_,eu rfl rfl (S.row 5 rfl) rfl,fin (by omega) (bN.iY _) (mV (by simp only[eK]at vq⊢;omega)) ⟨by simp only[eK]at vq⊢;omega,by simp at hy;dsimp only;omega,by simp at hy;dsimp only;omega,by dsimp only;omega,by dsimp only;omega⟩ S2⟩
    conv=>whnf
    refine ae (fun g3=>?_) (fun g3=>?_)
    ·rcases hW with⟨_,h0⟩|⟨Gj,rfl⟩
     ·simp at h0
     have Ug: ∀v∈aL,v.d.fA<=1048576:=fun v hv=>by
      have h1:=eK ⟨[2,2],aH,aL,now,keep⟩;have h2:=eA (f:=View.d) hv;dsimp only at h1;omega
     refine aC (S.row 4 rfl) ?_;conv=>whnf
     replace S:=S.q1;rcases aj.B5 S with⟨hx,_,_⟩|⟨zS,vs,Fs,dm,rfl,S1⟩
     ·simp at hx
     injection dm with vt _ FJ;subst vt
     have uh:vs=[i64 2,i64 2]:=by
      have h0:cZ _ ([2,2].map bg.i) vs Fs:=S1.get 1 rfl;simp only[aao,abA,cZ,cq]at h0;obtain⟨u1,w1,_,_,rfl,_,⟨rfl,_⟩,u2,w2,_,_,rfl,_,⟨rfl,_⟩,rfl,_⟩:=h0;rfl
     subst uh;have S:=S1.drop 1;clear S1;dsimp only[List.eraseIdx]at S;refine⟨_,S.row 0 rfl,by decide,?_⟩;conv=>whnf
     refine⟨[.own Gj 0 1],(by kernel_rfl),rfl,rfl,.inl ⟨_,S.row 4 rfl,rfl,?_⟩⟩;conv=>whnf
     intro h4 xk;replace S:=S.w4 xk;refine aC (S.row 4 rfl) ?_;conv=>whnf
     refine⟨[.own Gj 0 1,T,V,i64 now,i64 keep],(by kernel_rfl),rfl,(bM rfl (bM cT (bM cV rfl))),.inl ⟨_,S.row 5 rfl,rfl,?_⟩⟩;conv=>whnf
     intro h5 qh;replace S:=S.w5 qh;conv=>whnf
     have S2:=(S.drop 4).drop 4;dsimp only[List.eraseIdx]at S2;have S3:=aj.pair ((S2.front 3 rfl).front 3 rfl);have S4:=aj.pair (S3.front 1 rfl);dsimp only[List.eraseIdx]at S4;exact⟨_,eu rfl rfl (S.row 5 rfl) rfl,_,_,_,_,rfl,(aj.fm S4.swap (by omega)).swap,fun h' ho=>Sh ho.1 ho.2.1 ho.2.2 Ug,⟨[2],aH,aL,now,keep⟩,rfl,by simp only[eK,aak,abj]at vq⊢;omega,by dsimp only;omega,by dsimp only;omega,by dsimp only;omega,by dsimp only;omega⟩
    conv=>whnf
    refine ae (fun g4=>?_) (fun g4=>?_)
    ·refine aC (S.row 4 rfl) ?_;conv=>whnf
     rcases hV with⟨rfl,xF⟩|⟨idV,rfl⟩
     ·refine aC (S.row 4 rfl) ?_;conv=>whnf
      refine⟨[W,T,.nil,i64 now,i64 keep],(by kernel_rfl),rfl,(bM cW (bM cT (bM rfl rfl))),.inl ⟨_,S.row 5 rfl,rfl,?_⟩⟩;conv=>whnf
      intro h6 gU;replace S:=S.w5 gU;conv=>whnf
      have S2:=(S.drop 4).drop 4;dsimp only[List.eraseIdx]at S2;replace S2:=aj.ik (now:=now) (keep:=keep) (((S2.front 3 rfl).front 3 rfl).front 3 rfl);exact⟨_,eu rfl rfl (S.row 5 rfl) rfl,fin (by omega) (bN.iY _) (mV (by omega)) ⟨by omega,by dsimp only;omega,by dsimp only;omega,by dsimp only;omega,by dsimp only;omega⟩ S2⟩
     ·conv=>whnf
      refine ae (fun g6=>?_) (fun g6=>?_)
      ·cases aL with
       |nil=>simp at g6
       |cons v0 vr=>
       refine aC (S.row 4 rfl) ?_;conv=>whnf
       refine Ui hp 2 3 (by omega) (by omega) S (by omega) fun z B FB h4 hz S1=>?_;replace S:=S1;clear S1;have cB:=(show sv 2 _ _ B FB from S.get 1 rfl).1.cell;conv=>whnf
       refine⟨?_,?_⟩
       ·repeat
         ((conv=>whnf);first|trivial|refine⟨by first|((conv=>whnf);exact cm rfl (S.row 5 rfl) rfl rfl),?_⟩)
       conv=>whnf
       replace S:=S.q4;rcases aj.B5 S with⟨hx,_,_⟩|⟨zS,vs,Fs,dm,rfl,S1⟩
       ·simp at hx
       injection dm with vt _ FJ;subst vt;obtain⟨⟨⟨au,pn,aD,cells,a,b,aq,agg,col,ao⟩,l,r,ks⟩,bO,base,aZ⟩:=v0;obtain⟨XA,xv,XB,FA,G,FB2,rfl,WT,S2⟩:=aj.D6 (A:=[]) S1.swap;clear S S1;obtain rfl:XA=[]:=aaM.1 WT;obtain⟨C,K,DD,L5,R5,KS,B0,P0,H1,H2,H3,rfl,sL,cB0,cP0,S⟩:=aj.M3 S2;clear S2;refine⟨_,S.row 5 rfl,⟨by decide,by simp⟩,?_⟩;conv=>whnf
       refine⟨[B],cB.1,rfl,Ii cB.2,.inr ⟨_,_,_,S.row 5 rfl,rfl,?_⟩⟩;conv=>whnf
       intro h5 qh;replace S:=S.w5 qh;refine aC (S.row 10 rfl) ?_;conv=>whnf
       refine⟨[W,T,.own idV 0 (vr.length+1),i64 now,i64 keep],(by kernel_rfl),rfl,(bM cW (bM cT (bM rfl rfl))),.inl ⟨_,S.row 11 rfl,rfl,?_⟩⟩;conv=>whnf
       intro h6 gU;replace S:=S.w11 gU;conv=>whnf
       have S2:=((S.drop 11).drop 10).drop 1;dsimp only[List.eraseIdx]at S2;replace S2:=S2.q6;replace S2:=aj.CT (uc (bO:=bO) (aj.ek S2).swap);have S3:=aj.r0 (n:=vr.length+1) (xs:=List.map View.da (⟨.mk (.mk au pn aD cells a b aq agg col ao) l r ks,bO,z,aZ⟩::vr)) S2.swap (by simp);replace S3:=(S3.front 3 rfl).front 3 rfl;dsimp only[List.eraseIdx]at S3;replace S3:=aj.ik (now:=now) (keep:=keep) S3;have O1:=Ul (n:=3) (z:=z) ⟨hz.1,fun x hx=>by have:=(hz.2 x hx).1;omega⟩;exact⟨_,eu rfl rfl (S.row 11 rfl) rfl,fin (by omega) (bN.iY _) (mV (by simp only[eK,aao,bg.fV,nk,aak]at vq⊢;omega)) ⟨by simp only[eK,aao,bg.fV,nk,aak]at vq⊢;omega,by dsimp only;omega,by dsimp only;omega,by dsimp only;omega,by dsimp only;omega⟩ S3⟩
      ·refine aC (S.row 4 rfl) ?_;conv=>whnf
       refine⟨[W,T,.own idV 0 aL.length,i64 now,i64 keep],(by kernel_rfl),rfl,(bM cW (bM cT (bM rfl rfl))),.inl ⟨_,S.row 5 rfl,rfl,?_⟩⟩;conv=>whnf
       intro h6 gU;replace S:=S.w5 gU;conv=>whnf
       have S2:=(S.drop 4).drop 4;dsimp only[List.eraseIdx]at S2;replace S2:=aj.ik (now:=now) (keep:=keep) (((S2.front 3 rfl).front 3 rfl).front 3 rfl);exact⟨_,eu rfl rfl (S.row 5 rfl) rfl,fin (by omega) (bN.iY _) (mV (by omega)) ⟨by omega,by dsimp only;omega,by dsimp only;omega,by dsimp only;omega,by dsimp only;omega⟩ S2⟩
    conv=>whnf
    refine ae (fun g5=>?_) (fun g5=>?_)
    ·rcases hT with⟨_,h0⟩|⟨O0,rfl⟩
     ·rw[h0]at hi;simp at hi
     refine aC (S.row 4 rfl) ?_;refine aC (S.row 4 rfl) ?_;conv=>whnf
     replace S:=S.q2;rcases aj.B5 S with⟨hx,_,_⟩|⟨zS,vs,Fs,dm,rfl,S1⟩
     ·rw[List.map_eq_nil_iff]at hx;rw[hx]at hi;simp at hi
     injection dm with vt _ FJ;subst vt
     obtain⟨t0,tr,rfl⟩: ∃t0 tr,aH=t0::tr:=by
      cases aH with
      |nil=>simp at hi
      |cons a b=>exact⟨a,b,rfl⟩
     obtain⟨v0,vr,G1,G2,rfl,rfl,S2⟩:=aj.uZ S1.swap;clear S S1;have S:=S2;clear S2;have wJ:dS t0=true:=(oi.1 (nv hi.2.2.2.2.2.2.1 0 t0 2 rfl rfl).2).2;have Ge:=(dA wJ).1;have xF:=CU (show cq _ (.a 2 (t0.map Item.d)) v0 G1 from S.get 0 rfl);have WJ:fZ (dZ pr).P 30 v0 0=some v0:=by rcases xF with⟨rfl,_⟩|⟨_,rfl⟩<;>rfl
     refine⟨_,S.row 2 rfl,⟨by decide,by simp⟩,?_⟩;conv=>whnf
     refine .inr ⟨_,_,_,S.row 2 rfl,rfl,gH (v:=v0) WJ ?_⟩;conv=>whnf
     intro ka aa OD OE;replace S:=S.alloc OD OE;conv=>whnf
     intro kb ab CL CM;replace S:=S.alloc CL CM;conv=>whnf
     replace S:=S.q5;refine nZ hp [-1,1] (by simp) (by simp) S (by omega) fun w h4 hw S1=>?_;replace S:=S1;clear S1;conv=>whnf
     refine⟨?_,?_⟩
     ·repeat
       ((conv=>whnf);first|trivial|refine⟨by first|((conv=>whnf);exact⟨_,rfl,S.row 1 rfl⟩)|((conv=>whnf);exact Zy rfl rfl rfl (S.row 4 rfl) ⟨by decide,by simp⟩ rfl)|((conv=>whnf);exact LM rfl (S.row 4 rfl) rfl WJ rfl)|((conv=>whnf);exact⟨_,rfl,S.row 4 rfl⟩)|((conv=>whnf);exact cm rfl (S.row 7 rfl) rfl rfl),?_⟩)
     conv=>whnf
     replace S:=S.q1;have S2:aj h4 (.dL (iR.d [99,0]) (.own ka 0 2) [ka]::_):=aj.close (n:=2) (S.more (c:=.ed [.i 99,.i 0] [i64 99,i64 0] []) (aa2 _) (iH (uq 99) (uq 0)) (by simp[Chunk.ed]) (by simp[Chunk.ed])).swap rfl;replace S:=rH (w:=w) S2;clear S2;replace S:=S.q2;replace S:=aj.Ls S;intro pI pJ dT dU;replace S:=S.alloc dT dU;conv=>whnf
     refine⟨trivial,?_⟩;conv=>whnf
     refine⟨[_],bT (S.row 0 rfl),fi rfl rfl,?_⟩;replace S:=S.drop 0;dsimp only[List.eraseIdx]at S;refine lp (sz:=2) (d:=Item.d ⟨[99,0],w⟩) S (by simp[bB];omega) fun k6 h6 F6 S2=>?_;clear S;have S:=S2;clear S2;conv=>whnf
     refine⟨?_,?_⟩
     ·repeat
       ((conv=>whnf);first|trivial|refine⟨by first|((conv=>whnf);exact⟨_,rfl,S.row 1 rfl⟩)|((conv=>whnf);exact cm rfl (S.row 6 rfl) rfl rfl),?_⟩)
     conv=>whnf
     rcases xF with⟨rfl,_⟩|⟨_,rfl⟩
     all_goals
      refine⟨_,S.row 3 rfl,⟨by decide,by simp⟩,?_⟩;conv=>whnf
      refine⟨_,rfl,rfl,rfl,.inr ⟨_,_,_,S.row 3 rfl,rfl,?_⟩⟩;conv=>whnf
      intro h7 hh7;replace S:=S.w3 hh7;refine aC (S.row 6 rfl) ?_;conv=>whnf
      refine⟨[W,.own O0 0 (tr.length+1),V,i64 now,i64 keep],(by kernel_rfl),rfl,(bM cW (bM rfl (bM cV rfl))),.inl ⟨_,S.row 7 rfl,rfl,?_⟩⟩;conv=>whnf
      intro h8 pE;replace S:=S.w7 pE;conv=>whnf
      have S2:=(S.drop 7).drop 6;dsimp only[List.eraseIdx]at S2;replace S2:=aj.qU S2;rw[show List.map Item.d t0++[Item.d ⟨[99,0],w⟩]=List.map Item.d (t0++[⟨[99,0],w⟩]) by simp]at S2;replace S2:=S2.q2;have S3:=aj.Q9 (d:=aI.da (t0++[⟨[99,0],w⟩])) S2.swap;clear S2;have S2:=S3.front 2 rfl;dsimp only[List.eraseIdx]at S2;replace S2:=aj.r0 (n:=tr.length+1) (xs:=List.map aI.da ((t0++[⟨[99,0],w⟩])::tr)) S2 (by simp);replace S2:=((S2.front 3 rfl).front 1 rfl).front 3 rfl;dsimp only[List.eraseIdx]at S2;replace S2:=aj.ik (now:=now) (keep:=keep) S2;have O1:=Ck t0 ⟨[99,0],w⟩
      have OY:(bN.d ⟨[2,2],(t0++[⟨[99,0],w⟩])::tr,aL,now,keep⟩).fA<=400100:=by
       simp only[eK,bX.d,bg.fA,aao,aak,bg.fV,abj]at vq O1⊢;omega
      exact⟨_,eu rfl rfl (S.row 7 rfl) rfl,fin (by omega) (bN.iY _) (mV (by omega)) ⟨by omega,by dsimp only;omega,by dsimp only;omega,by dsimp only;omega,by dsimp only;omega⟩ S2⟩
    ·refine aC (S.row 4 rfl) ?_;conv=>whnf
     refine⟨[W,T,V,i64 now,i64 keep],(by kernel_rfl),rfl,(bM cW (bM cT (bM cV rfl))),.inl ⟨_,S.row 5 rfl,rfl,?_⟩⟩;conv=>whnf
     intro h6 gU;replace S:=S.w5 gU;conv=>whnf
     have S2:=(S.drop 4).drop 4;dsimp only[List.eraseIdx]at S2;replace S2:=aj.ik (now:=now) (keep:=keep) (((S2.front 3 rfl).front 3 rfl).front 3 rfl);exact⟨_,eu rfl rfl (S.row 5 rfl) rfl,fin (by omega) (bN.iY _) (mV (by omega)) ⟨by omega,by dsimp only;omega,by dsimp only;omega,by dsimp only;omega,by dsimp only;omega⟩ S2⟩
end Go.Proofs.YtfepbikckfehlaaGreat
set_option maxHeartbeats 4000000
namespace Go.Proofs.YtfepbikckfehlaaGreat
open Go Go.Am
theorem Un(w:Int)(z:List Item):(decide (1<=w)&&(decide (w<=6)&&td z w))=Bt w z:=by
 unfold Bt
 congr 2
 unfold td nP
 cases hz:dS z with
 |false=>simp
 |true=>
  simp only[Bool.and_true,aay];have hw:=MN hz;clear hz
  induction z with
  |nil=>rfl
  |cons x xs ih=>
   have h1:=hw x (by simp);have:=ih fun y hy=>hw y (by simp[hy]);simp only[abi,List.any_cons,this,Bool.not_or]
   have e:(!decide (x.w<0))=decide (1<=x.w):=by
    by_cases h:x.w<0
    ·have: ¬1<=x.w:=by omega
     simp[h,this]
    ·have:1<=x.w:=by omega
     simp[h,this]
   rw[e];cases decide (1<=x.w)<;>cases decide ((x.row.length:Int)=w)<;>simp
theorem Na: ∀(ws:List Int)(ts:List (List Item)),jt ws ts=mZ ts ws
 | [],[]=>rfl
 | [],_::_=>rfl
 |_::_,[]=>rfl
 |w::ws,t::ts=>by simp only[jt,mZ,Un,Na ws ts]
theorem Cm(lo now wide:Int): ∀(ps:List dg)(q:Option Int)(L:Int),(match q with|none=>L=lo|some x=>L=x/\lo<x)->eC lo now wide q ps=kV now wide L ps
 | [],q,L,h=>by simp[eC,kV]
 |p::ps,none,L,h=>by
  simp only at h;subst h;simp only[eC,kV,jN]
  by_cases h1:L<p.dP
  ·rw[Cm L now wide ps (some p.dP) p.dP ⟨rfl,h1⟩];cases dS p.out<;>cases nP p.out wide<;>cases decide (p.dP<=now)<;>simp
  ·simp[h1]
 |p::ps,some x,L,h=>by
  obtain⟨rfl,h2⟩:=h;simp only[eC,kV,jN]
  by_cases h3:L<p.dP
  ·have h1:lo<p.dP:=by omega
   rw[Cm lo now wide ps (some p.dP) p.dP ⟨rfl,h1⟩];simp only[h1,h3,decide_true,aay];cases dS p.out<;>cases nP p.out wide<;>cases decide (p.dP<=now)<;>simp
  ·simp[h3]
theorem Uo(ws:List Int)(now keep:Int)(v:View):ix ws now keep v=gF ws now keep v:=by
 unfold ix gF Bu yb;rw[Ot,Is]
 have zQ:(if keep>v.bO then keep else v.bO)=(if v.bO>keep then v.bO else keep):=by
  split<;>split<;>omega
 rw[zQ,Cm _ now _ v.aZ none _ rfl]
 have hw:(!(iQ v.hU.ez ws== -1))=decide (1<=iQ v.hU.ez ws):=by
  have:iQ v.hU.ez ws= -1∨1<=iQ v.hU.ez ws:=by
   unfold iQ;split
   ·rcases y7 ws v.hU.ez with h|h
    ·exact .inl h
    ·exact .inr h.1
   ·exact .inl rfl
  rcases this with h|h
  ·rw[h];rfl
  ·have:iQ v.hU.ez ws≠ -1:=by omega
   simp[h,this]
 rw[hw]
 congr 4
 unfold jN;cases dS v.base<;>cases nP v.base (iQ v.hU.ez ws)<;>simp
theorem Jo(s:bN):me s=dz s:=by
 unfold me dz;rw[Na]
 have hv:(!s.aL.any fun v=>!ix s.bc s.now s.keep v)=s.aL.all (gF s.bc s.now s.keep):=by
  rw[List.not_any_eq_all_not]
  congr 1
  funext v
  rw[Bool.not_not,Uo]
 rw[hv]
 by_cases h1:s.aH.length=s.bc.length
 ·simp[h1]
 ·have h2: ¬s.bc.length=s.aH.length:=fun e=>h1 e.symm;simp[h1,h2]
theorem Cn(dP:Int): ∀(ps:List dg)(z:List Item),(∀p∈ps,dS p.out=true)->lF z->JB dP z ps=mP dP z ps
 | [],z,_,_=>rfl
 |p::ps,z,hp,hz=>by
  have h1:=hp p (by simp);simp only[JB,mP];rw[DP hz h1];split
  ·exact Cn dP ps _ (fun q hq=>hp q (by simp[hq])) (Bo hz _)
  ·exact Cn dP ps _ (fun q hq=>hp q (by simp[hq])) hz
theorem Up(s:bN)(view dP:Int):qP s view dP=MP s view dP:=by
 unfold qP MP;have hv:=@vi s;rw[Jo]
 cases eb:dz s with
 |false=>rfl
 |true=>
  rw[eb]at hv;simp only[Bool.not_true,Bool.false_eq_true,if_false];split
  ·rfl
  ·cases hg:s.aL[view.toNat]? with
   |none=>rfl
   |some v=>
    simp only;obtain⟨z1,z2,_⟩:=tW (hv rfl v (aaq hg));rw[Cn dP v.aZ v.base z2 (qO z1)]
    have hm:(decide (dP<s.keep)||decide (dP<v.bO))=decide (dP<(if s.keep>v.bO then s.keep else v.bO)):=by
     by_cases h:s.keep>v.bO
     ·rw[if_pos h]
      by_cases h2:dP<s.keep
      ·simp[h2]
      ·have: ¬dP<v.bO:=by omega
       simp[h2,this]
     ·rw[if_neg h]
      by_cases h2:dP<v.bO
      ·simp[h2]
      ·have: ¬dP<s.keep:=by omega
       simp[h2,this]
    have ht: ∀z:List Item,(if(wI z).2=true then((wI z).1,(0:Int))else([],5))=if dS z=true then(z,0)else([],5):=fun z=>by
     unfold wI
     by_cases h:dS z=true<;>simp[h]
    rw[hm,ht]
end Go.Proofs.YtfepbikckfehlaaGreat
set_option maxHeartbeats 4000000
set_option pp.deepTerms false
set_option pp.deepTerms.threshold 60
namespace Go.Proofs.YtfepbikckfehlaaGreat
open Go Go.Am
set_option maxRecDepth 100000
theorem Si(s:bN)(view dP:Int):dS (MP s view dP).1=true:=by
 unfold MP;have h0:dS []=true:=rfl
 repeat' split
 all_goals first|exact h0|assumption
theorem kq{α:Type}{f:α->α->Bool}(hf: ∀x,f x x=true): ∀l:List α,bZ f l l=true
 | []=>rfl
 |x::xs=>by simp[bZ,hf x,kq hf xs]
theorem Jp(x:Item):kI x x=true:=by
 unfold kI;rw[beq_self_eq_true,aay,lE]
variable{pr:bW}
end Go.Proofs.YtfepbikckfehlaaGreat
set_option maxHeartbeats 4000000
set_option pp.deepTerms false
set_option pp.deepTerms.threshold 30
namespace Go.Proofs.YtfepbikckfehlaaGreat
open Go Go.Am
set_option maxRecDepth 100000
theorem LN{x y:Item}(h:kI x y=true):x=y:=by
 obtain⟨r,w⟩:=x;obtain⟨r2,w2⟩:=y;simp only[kI,xz,beq_iff_eq]at h;obtain⟨rfl,h2⟩:=h;rw[(lE _ _).1 h2]
theorem Ab{a b:List Item}(h:zY a b=true):a=b:=iB (fun _ _ _ h=>LN h) h
theorem tJ(a:List Item):zY a a=true:=kq Jp a
theorem Co{a b:List (List Item)}(h:vj a b=true):a=b:=iB (fun _ _ _ h=>Ab h) h
theorem zA(a:List (List Item)):vj a a=true:=kq tJ a
theorem LO{p q:dg}(h:j4 p q=true):p=q:=by
 obtain⟨a,o⟩:=p;obtain⟨b,o2⟩:=q;simp only[j4,xz,beq_iff_eq]at h;obtain⟨rfl,h2⟩:=h;rw[Ab h2]
theorem Jq(p:dg):j4 p p=true:=by simp[j4,tJ]
theorem Jr: ∀(N:Nat)(f g:bz),SizeOf.sizeOf f<=N->gd f g=true->f=g:=by
 intro N
 induction N with
 |zero=>intro f g h;cases f;simp at h
 |succ N ih=>
  intro f g hs h;obtain⟨p,l,r,ks⟩:=f;obtain⟨p',l',r',kC⟩:=g;rw[gd,ph]at h;simp only[xz]at h;rw[Co h.1.1,Co h.1.2,Bp h.2.1,iB (fun u hu v h=>ih u v (by have:=abo hu;simp at hs;omega) h) h.2.2]
theorem LP{f g:bz}(h:gd f g=true):f=g:=Jr _ f g (aah _) h
theorem FY: ∀(N:Nat)(f:bz),SizeOf.sizeOf f<=N->gd f f=true:=by
 intro N
 induction N with
 |zero=>intro f h;cases f;simp at h
 |succ N ih=>
  intro f hs;obtain⟨p,l,r,ks⟩:=f;rw[gd,ph,zA,zA,zw,ns fun k hk=>ih k (by have:=abo hk;simp at hs;omega)];rfl
theorem Js(f:bz):gd f f=true:=FY _ f (aah _)
theorem LQ{v w:View}(h:iC v w=true):v=w:=by
 obtain⟨f,s,b,ps⟩:=v;obtain⟨f2,s2,b2,ps2⟩:=w;simp only[iC,xz,beq_iff_eq]at h;rw[LP h.1,h.2.1,Ab h.2.2.1,iB (fun _ _ _ h=>LO h) h.2.2.2]
theorem Jt(v:View):iC v v=true:=by
 simp[iC,Js,tJ,kq Jq]
theorem nz{a b:bN}(h:gZ a b=true):a=b:=by
 obtain⟨w,t,v,n,k⟩:=a;obtain⟨w2,t2,v2,n2,k2⟩:=b;simp only[gZ,xz,beq_iff_eq]at h;rw[h.1.1,h.1.2,(lE _ _).1 (show fL w w2=true from h.2.1),iB (fun _ _ _ h=>Ab h) h.2.2.1,iB (fun _ _ _ h=>LQ h) h.2.2.2]
theorem r8(a:bN):gZ a a=true:=by
 simp[gZ,kq tJ,kq Jt,ze]
theorem FZ(a b:bN):gZ a b=gZ b a:=by
 rw[Bool.eq_iff_iff];exact⟨fun h=>by rw[nz h];exact r8 _,fun h=>by rw[nz h];exact r8 _⟩
theorem Ju{a:bN}{n:Int}(h:n≠a.now):gZ a ⟨a.bc,a.aH,a.aL,n,a.keep⟩=false:=by
 cases he:gZ a ⟨a.bc,a.aH,a.aL,n,a.keep⟩with
 |false=>rfl
 |true=>
  have:=nz he;exact absurd (congrArg bN.now this).symm h
theorem Ga{a:bN}(h:a.aL≠[]):gZ a ⟨a.bc,a.aH,a.aL.drop 1,a.now,a.keep⟩=false:=by
 cases he:gZ a ⟨a.bc,a.aH,a.aL.drop 1,a.now,a.keep⟩with
 |false=>rfl
 |true=>
  have:=congrArg (fun s=>s.aL.length) (nz he);simp only[List.length_drop]at this;have:=List.length_pos_iff.2 h;omega
variable{pr:bW}(hp:cF pr)
theorem LR{P:Program}{fn:Func}{st:St}{a d t k k2:Nat}{x v x2 v2:af}(hr:fn.results.toList=[.cell a t,.cell d t])(ha:st.tm a= .ptr k 0 0)(hk:st.hp[k]?=some (.box x))(hv:fZ P t x 0=some v)(hd:st.tm d= .ptr k2 0 0)(jS:st.hp[k2]?=some (.box x2))(UZ:fZ P t x2 0=some v2):qx P fn (some (.ret st))=some (.ret (.eT [v,v2]) st.hp):=by
 have h1:kM P st (.cell a t)=some v:=by simp only[kM,ha,ku,hk,if_true,hv]
 have h2:kM P st (.cell d t)=some v2:=by simp only[kM,hd,ku,jS,if_true,UZ]
 simp only[qx,hr,di,h1,h2,aaL];rfl
theorem Sj(hp:cF pr)(bs:List Int)(hb: ∀b∈bs,0<=b/\b<256)(AE:bs.length<=1048576): ∃(s t:bN),yz s/\t.d.fA<=500000/\dK pr 12 [.sl (bs.map u8)] (.eT [s.enc,t.enc]):=by
 suffices hw:x9 (dZ pr) 12 [.sl (bs.map u8)] [] (fun r=>∃(s t:bN),yz s/\t.d.fA<=500000/\ ∃v h1,r= .ret v h1/\snap h1 v=some (.eT [s.enc,t.enc])) by
  obtain⟨r,hr,s,t,hs,ht,v,h1,rfl,hv⟩:=dJ (hp.out _ rfl) hw;refine⟨s,t,hs,ht,fun h=>?_⟩;have hm:(dZ pr).M 12= .P:=zU (f:=12) rfl;have ha:dc [] [af.sl (bs.map u8)]=some [.sl (bs.map u8)]:=rfl;unfold cj;simp only[hm,ha,hr,hv,aaL]
 have S:=aj.nil [];conv=>whnf
 intro k1 a1 eg er;replace S:=S.alloc eg er;conv=>whnf
 intro k2 a2 jS jb;replace S:=S.alloc jS jb;conv=>whnf
 refine Jh hp bs hb AE S fun k h1 S1=>?_;clear S;conv=>whnf
 refine Cl hp S1 (by omega) fun s h2 hs S=>?_;clear S1;replace S:=S.drop 0;dsimp only[List.eraseIdx]at S;obtain⟨bc,aH,aL,now,keep⟩:=s;conv=>whnf
 intro k4 a4 vp qX;replace S:=S.alloc vp qX;conv=>whnf
 refine⟨_,rfl,rfl,rfl,.inl ⟨_,S.row 0 rfl,rfl,?_⟩⟩;conv=>whnf
 intro b1 fw;replace S:=S.w0 fw;conv=>whnf
 refine Jh hp bs hb AE S fun k h3 S1=>?_;clear S;conv=>whnf
 refine Cl hp S1 (by omega) fun t h4 ht S=>?_;clear S1;replace S:=S.drop 0;dsimp only[List.eraseIdx]at S;obtain⟨vl,rN,vn,IG,DR⟩:=t;conv=>whnf
 intro k5 a5 CS qJ;replace S:=S.alloc CS qJ;conv=>whnf
 refine⟨_,rfl,rfl,rfl,.inl ⟨_,S.row 0 rfl,rfl,?_⟩⟩;conv=>whnf
 intro b2 ea;replace S:=S.w0 ea;conv=>whnf
 have sn: ∀(kp:Int),(bN.d ⟨vl,rN,vn,IG,kp⟩).fA<=500000:=fun kp=>by
  have:=ht.1;simp only[eK]at this⊢;omega
 cases bs with
 |nil=>
  refine aC (S.row 1 rfl) ?_;refine aC (S.row 0 rfl) ?_;conv=>whnf
  refine⟨_,rfl,rfl,rfl,.inl ⟨_,S.row 3 rfl,rfl,?_⟩⟩;conv=>whnf
  intro b3 fY;replace S:=S.w3 fY;conv=>whnf
  refine⟨?_,?_⟩
  ·repeat
    ((conv=>whnf);first|trivial|refine⟨by first|((conv=>whnf);exact cm rfl (S.row 0 rfl) rfl rfl),?_⟩)
  conv=>whnf
  refine⟨_,rfl,rfl,rfl,.inl ⟨_,S.row 2 rfl,rfl,?_⟩⟩;conv=>whnf
  intro b4 gX;replace S:=S.w2 gX;conv=>whnf
  exact⟨_,LR rfl rfl (S.row 3 rfl) rfl rfl (S.row 2 rfl) rfl,⟨bc,aH,aL,now,keep⟩,⟨vl,rN,vn,IG,DR⟩,hs,sn _,_,_,rfl,rfl⟩
 |cons c cs=>
  conv=>whnf
  refine ae (fun g1=>?_) (fun g1=>?_)
  ·conv=>whnf
   refine⟨_,(rfl:((c::cs).map u8)[(0:Int).toNat]?=some (u8 c)),by decide,rfl,?_⟩;conv=>whnf
   refine⟨rfl,by decide,?_⟩;conv=>whnf
   refine ae (fun g2=>?_) (fun g2=>?_)
   ·refine aC (S.row 0 rfl) ?_;conv=>whnf
    refine⟨_,rfl,rfl,rfl,.inl ⟨_,S.row 0 rfl,rfl,?_⟩⟩;conv=>whnf
    intro b5 jF;replace S:=S.w0 jF;refine aC (S.row 1 rfl) ?_;refine aC (S.row 0 rfl) ?_;conv=>whnf
    refine⟨_,rfl,rfl,rfl,.inl ⟨_,S.row 3 rfl,rfl,?_⟩⟩;conv=>whnf
    intro b3 fY;replace S:=S.w3 fY;conv=>whnf
    refine⟨?_,?_⟩
    ·repeat
      ((conv=>whnf);first|trivial|refine⟨by first|((conv=>whnf);exact cm rfl (S.row 0 rfl) rfl rfl),?_⟩)
    conv=>whnf
    refine⟨_,rfl,rfl,rfl,.inl ⟨_,S.row 2 rfl,rfl,?_⟩⟩;conv=>whnf
    intro b4 gX;replace S:=S.w2 gX;conv=>whnf
    exact⟨_,LR rfl rfl (S.row 3 rfl) rfl rfl (S.row 2 rfl) rfl,⟨bc,aH,aL,now,keep⟩,⟨vl,rN,vn,IG,IntKind.i64.wrap (DR+1)⟩,hs,sn _,_,_,rfl,rfl⟩
   ·refine aC (S.row 1 rfl) ?_;refine aC (S.row 0 rfl) ?_;conv=>whnf
    refine⟨_,rfl,rfl,rfl,.inl ⟨_,S.row 3 rfl,rfl,?_⟩⟩;conv=>whnf
    intro b3 fY;replace S:=S.w3 fY;conv=>whnf
    refine⟨?_,?_⟩
    ·repeat
      ((conv=>whnf);first|trivial|refine⟨by first|((conv=>whnf);exact cm rfl (S.row 0 rfl) rfl rfl),?_⟩)
    conv=>whnf
    refine⟨_,rfl,rfl,rfl,.inl ⟨_,S.row 2 rfl,rfl,?_⟩⟩;conv=>whnf
    intro b4 gX;replace S:=S.w2 gX;conv=>whnf
    exact⟨_,LR rfl rfl (S.row 3 rfl) rfl rfl (S.row 2 rfl) rfl,⟨bc,aH,aL,now,keep⟩,⟨vl,rN,vn,IG,DR⟩,hs,sn _,_,_,rfl,rfl⟩
  ·exact absurd g1 (by simp)
theorem CW{pr:bW}(hk:DE pr)(bs:List Int)(hb: ∀b∈bs,0<=b/\b<256): ∃h,call (dZ pr) 4 [.sl (bs.map u8)] []=some (.ret (.bool true) h):=by
 have hp:=hk.tocF
 suffices hw:x9 (dZ pr) 4 [.sl (bs.map u8)] [] (fun r=>∃h,r= .ret (.bool true) h) by
  obtain⟨r,hr,h,rfl⟩:=dJ (hp.out _ rfl) hw;exact⟨h,hr⟩
 have S:=aj.nil [];conv=>whnf
 rw[aat];refine ae (fun g1=>?_) (fun g1=>?_)
 ·conv=>whnf
  exact⟨_,rfl,_,rfl⟩
 obtain⟨a,b,hs,Uy,hd⟩:=Sj hp bs hb (by simp at g1;omega);have ht:a.d.fA<=1048576:=by have:=hs.1;omega
 have OG:b.d.fA<=1048576:=by omega
 have c1:=mh hp a b ht;have c2:=Fm hp a b ht OG;have c3:=mh hp a a ht;rw[r8]at c3;have c4:=mh hp b a OG;rw[FZ]at c4;have c5:=Bv hk a ht;rw[Jo]at c5;have c6:=mQ hp a ht;have hn:IntKind.i64.wrap (a.now+1)≠a.now:=by rw[aaC];have:=hs.2;omega
 have c7:=mh hp a ⟨a.bc,a.aH,a.aL,IntKind.i64.wrap (a.now+1),a.keep⟩ ht;rw[Ju hn]at c7
 have c8:a.aL≠[]->dK pr 13 [a.enc,bN.enc ⟨a.bc,a.aH,a.aL.drop 1,a.now,a.keep⟩] (.bool false):=fun h=>by
  have:=mh hp a ⟨a.bc,a.aH,a.aL.drop 1,a.now,a.keep⟩ ht;rw[Ga h]at this;exact this
 have c9:=wR hk a 0 a.now ht;have c10:=wR hk b 0 b.now OG;have DS:ij (qP a 0 a.now).1:=by rw[Up];exact dC (Si _ _ _)
 have c11:=sZ hp (qP a 0 a.now).1 (qP b 0 b.now).1 DS;have pY:gZ a b=true->qP a 0 a.now=qP b 0 b.now:=fun h=>by rw[nz h]
 have oG: ∀(s:bN)(n:Int)(h:aG),dc h [s.enc,i64 0,i64 n]=some [s.enc,i64 0,i64 n]:=fun s n h=>rfl;generalize gZ a b=same at c1 c2 c4 pY;generalize qP a 0 a.now=ra at c9 c11 pY DS;generalize qP b 0 b.now=rb at c10 c11 pY;obtain⟨za,pa⟩:=ra;obtain⟨zb,pb⟩:=rb;clear hs Uy ht OG;have CI:(a.aL.length:Int)>0->a.aL≠[]:=fun h h2=>by rw[h2]at h;simp at h
 obtain⟨bc,aH,aL,now,keep⟩:=a;obtain⟨vl,rN,vn,IG,DR⟩:=b;conv=>whnf
 refine⟨_,hd _,?_⟩;conv=>whnf
 intro k1 a1 eg er;replace S:=S.alloc eg er;conv=>whnf
 intro k2 a2 jS jb;replace S:=S.alloc jS jb;conv=>whnf
 refine⟨_,rfl,rfl,rfl,.inl ⟨_,S.row 1 rfl,rfl,?_⟩⟩;conv=>whnf
 intro b1 fw;replace S:=S.w1 fw;conv=>whnf
 refine⟨_,rfl,rfl,rfl,.inl ⟨_,S.row 0 rfl,rfl,?_⟩⟩;conv=>whnf
 intro b2 ea;replace S:=S.w0 ea;conv=>whnf
 clear hd eg er jS jb fw ea;generalize dz ⟨bc,aH,aL,now,keep⟩=ok at c5 c6
 have Gt:(0:Int)<(aL.length:Int)->(0<=(some (1:Int)).getD 0/\(some (1:Int)).getD 0<=(none:Option Int).getD ((aL.map View.enc).length:Int)/\(none:Option Int).getD ((aL.map View.enc).length:Int)<=((aL.map View.enc).length:Int)/\((aL.map View.enc).all fun y=>y.cells.length==25)=true):=fun h=>by
  refine⟨by decide,by simp only[Option.getD,aat];omega,Int.le_refl _,aaj.2 fun y hy=>?_⟩;obtain⟨v,_,rfl⟩:=aaO.1 hy;obtain⟨⟨⟨au,pn,aD,cells,pa,pb,aq,agg,col,ao⟩,l,r,ks⟩,bO,base,aZ⟩:=v;rfl
 have c8':(0:Int)<(aL.length:Int)->dK pr 13 [bN.enc ⟨bc,aH,aL,now,keep⟩,.agg [.sl (bc.map i64),bX.enc aH,.sl (((aL.map View.enc).drop ((some (1:Int)).getD 0).toNat).take (((none:Option Int).getD ((aL.map View.enc).length:Int)).toNat-((some (1:Int)).getD 0).toNat)),i64 now,i64 keep]] (.bool false):=fun h=>by
  rw[show((aL.map View.enc).drop ((some (1:Int)).getD 0).toNat).take (((none:Option Int).getD ((aL.map View.enc).length:Int)).toNat-((some (1:Int)).getD 0).toNat)=(aL.drop 1).map View.enc by
   simp only[Option.getD,aaa];rw[<-List.map_drop];exact abt (by simp)]
  exact c8 (CI h)
 clear c8;cases same<;>cases ok
 all_goals
  iterate 38
   all_goals(try(conv=>whnf))
   all_goals(first|(refine⟨Gt (by simpa using hb),?_⟩)|(intro iK cp ee bf;replace S:=S.alloc ee bf)|(refine aC (S.row 0 rfl) ?_)|(refine aC (S.row 1 rfl) ?_)|(refine aC (S.row 2 rfl) ?_)|(refine aC (S.row 3 rfl) ?_)|(refine⟨_,rfl,rfl,rfl,.inl ⟨_,S.row 0 rfl,rfl,?_⟩⟩;(conv=>whnf);intro cp bf;replace S:=S.w0 bf)|(refine⟨_,rfl,rfl,rfl,.inl ⟨_,S.row 1 rfl,rfl,?_⟩⟩;(conv=>whnf);intro cp bf;replace S:=S.w1 bf)|(refine⟨_,rfl,rfl,rfl,.inl ⟨_,S.row 2 rfl,rfl,?_⟩⟩;(conv=>whnf);intro cp bf;replace S:=S.w2 bf)|(refine⟨_,rfl,rfl,rfl,.inl ⟨_,S.row 3 rfl,rfl,?_⟩⟩;(conv=>whnf);intro cp bf;replace S:=S.w3 bf)|(refine ae (fun hb=>?_) (fun hb=>?_))|(refine⟨_,c1 _,?_⟩)|(refine⟨_,c2 _,?_⟩)|(refine⟨_,c3 _,?_⟩)|(refine⟨_,c4 _,?_⟩)|(refine⟨_,c5 _,?_⟩)|(refine⟨_,c6 _,?_⟩)|(refine⟨_,c7 _,?_⟩)|(refine⟨_,c8' (by simpa using hb) _,?_⟩)|skip)
 all_goals
  refine iG S c9 rfl (oG ⟨bc,aH,aL,now,keep⟩ now _) fun vs q F S1=>?_;obtain⟨va,Fa,rfl,S2⟩:=aj.y6 S1;clear S1 S;have S:=S2;clear S2
  iterate 3
   all_goals(try(conv=>whnf))
   all_goals(first|(intro iK cp ee bf;replace S:=S.alloc ee bf)|(refine aC (S.row 0 rfl) ?_)|(refine aC (S.row 1 rfl) ?_)|(refine aC (S.row 2 rfl) ?_)|(refine aC (S.row 3 rfl) ?_)|(refine aC (S.row 4 rfl) ?_)|(refine⟨_,rfl,rfl,rfl,.inl ⟨_,S.row 0 rfl,rfl,?_⟩⟩;(conv=>whnf);intro cp bf;replace S:=S.w0 bf)|(refine⟨_,rfl,rfl,rfl,.inl ⟨_,S.row 1 rfl,rfl,?_⟩⟩;(conv=>whnf);intro cp bf;replace S:=S.w1 bf)|(refine⟨_,rfl,rfl,rfl,.inl ⟨_,S.row 2 rfl,rfl,?_⟩⟩;(conv=>whnf);intro cp bf;replace S:=S.w2 bf)|(refine⟨_,rfl,rfl,rfl,.inl ⟨_,S.row 3 rfl,rfl,?_⟩⟩;(conv=>whnf);intro cp bf;replace S:=S.w3 bf)|(refine⟨_,rfl,rfl,rfl,.inl ⟨_,S.row 4 rfl,rfl,?_⟩⟩;(conv=>whnf);intro cp bf;replace S:=S.w4 bf)|(refine ae (fun hb=>?_) (fun hb=>?_))|skip)
  refine iG S c10 rfl (oG ⟨vl,rN,vn,IG,DR⟩ IG _) fun vs q2 F S1=>?_;obtain⟨vb,Fb,rfl,S2⟩:=aj.y6 S1;clear S1 S;conv=>whnf
  first
   |exact⟨_,rfl,_,rfl⟩
   |skip
 all_goals
  obtain⟨rfl,rfl⟩:=Prod.mk.inj (pY rfl);refine fS (show(pa==pa)=true by simp) ?_;conv=>whnf
  refine⟨_,c11.here (lj (aI.iT (S2.get 1 rfl)) (aI.iT (S2.get 0 rfl))) rfl rfl,?_⟩;rw[show bZ kI za za=true from tJ za];conv=>whnf
  exact⟨_,rfl,_,rfl⟩
end Go.Proofs.YtfepbikckfehlaaGreat
set_option maxHeartbeats 4000000
namespace Go.Am
open Go
theorem Sk{P:Program}{n:Nat}{t e:TypeId}{xs:List af}{α:Type}(f:α->af)(Q:α->Prop)(hu:P.underlying t=some (.slice e))(he: ∀ys,uO P n e ys-> ∃c,jm P e ys=f c/\Q c)(h:uO P (n+1) t xs):
  ∃cs:List α,xs=[.sl (cs.map f)]/\cs.length<=maxLen/\ ∀c∈cs,Q c:=by
   unfold uO at h;rw[hu]at h;obtain⟨yS,rfl,hl,hy⟩:=h
   have key: ∀yS:List (List af),(∀ys∈yS,uO P n e ys)-> ∃cs:List α,yS.map (jm P e)=cs.map f/\ ∀c∈cs,Q c:=by
    intro yS
    induction yS with
    |nil=>intro _;exact⟨[],rfl,fun c hc=>by simp at hc⟩
    |cons ys yS ih=>
     intro hy;obtain⟨c,hc,hq⟩:=he ys (hy ys (by simp));obtain⟨cs,sL,YG⟩:=ih fun zs hz=>hy zs (by simp[hz])
     exact⟨c::cs,by simp[hc,sL],fun d hd=>by
      rcases aaz.1 hd with rfl|hd
      ·exact hq
      ·exact YG d hd⟩
   obtain⟨cs,sL,YG⟩:=key yS hy;have hlen:cs.length=yS.length:=by have:=congrArg List.length sL;simpa using this.symm
   exact⟨cs,by rw[sL],by omega,YG⟩
theorem W8{P:Program}{n:Nat}{t:TypeId}{k:IntKind}{xs:List af}(hu:P.underlying t=some (.int k))(h:uO P (n+1) t xs): ∃i,xs=[.int k i]/\(Lit.int k i).wf=true:=by
 unfold uO at h;rw[hu]at h;exact h
theorem Nb{P:Program}{n:Nat}{t:TypeId}{xs:List af}(h:uO P n t xs): ∃m,n=m+1:=by
 cases n with
 |zero=>exact h.elim
 |succ n=>exact⟨n,rfl⟩
end Go.Am
namespace Go.Proofs.YtfepbikckfehlaaGreat
open Go Go.Am
set_option maxRecDepth 100000
def ZA:TypeId:=4
end Go.Proofs.YtfepbikckfehlaaGreat
set_option maxHeartbeats 4000000
namespace Go.Proofs.YtfepbikckfehlaaGreat
open Go Go.Am Go.ChangeShapes Go.WideShapes Go.ChangeAt Go.RowKit
set_option maxRecDepth 100000
theorem Xa:ownKnob Tryz.prog.godebug=none:=by kernel_rfl
theorem Sl:laidOutB Tryz.prog=true:=by kernel_rfl
def Gb:TypeId:=22
def tU8:TypeId:=5
theorem Uq{k:Int}(h:(Lit.int .u8 k).wf=true):0<=k/\k<256:=by
 simp[Lit.wf,IntKind.min,IntKind.max,IntKind.signed,IntKind.bits]at h;omega
theorem Ur{n:Nat}{xs:List af}(h:uO Tryz.prog n Gb xs): ∃bs:List Int,jm Tryz.prog Gb xs= .sl (bs.map u8)/\ ∀b∈bs,0<=b/\b<256:=by
 obtain⟨m,rfl⟩:=Nb h
 obtain⟨cs,rfl,_,h2⟩:=Sk (e:=tU8) u8 (fun b=>0<=b/\b<256) rfl (fun ys hy=>by
  obtain⟨m2,rfl⟩:=Nb hy;obtain⟨i,rfl,hi⟩:=W8 (k:=.u8) rfl hy;exact⟨i,rfl,Uq hi⟩) h
 exact⟨cs,rfl,h2⟩
theorem yA(os:Os)(started:os.Started)(H:Type)(enc:TypeId×Value->H):
  ReturnsInHanded {} Tryz.checked os 4 .any (Rows.fnStoreSameSpec.pre6 enc Tryz.prog Tryz.f4 Rows.fnStoreSameRow.domain false) (Rows.fnStoreSameSpec.post enc Tryz.prog Tryz.f4 false true false false):=by
   refine returnsInHanded_of_change (C:=Tryz.checked) Xa started (by kernel_rfl) Tryz.func4
    (ChangeSpec.witness6 (enc:=enc) (C:=Tryz.checked) false ⟨#[],#[.slice none 0 0],[]⟩ 8 (by kernel_rfl) (by kernel_rfl) (by kernel_rfl) (by kernel_rfl)) ?_
   intro W base args ds gs before Hd hW agt _;refine Qj (cf:=dZ HT) YL (f:=4) (fn:=Tryz.f4) rfl rfl Sl (by decide+kernel) (ts:=[Gb,tU8]) (by kernel_rfl) (by decide+kernel) (tb:=ZA) rfl rfl (fun _=>rfl) (fun H ds hl=>?_) (fun args ha=>?_) Hd hW
   ·match ds,hl with
    | [d],_=>rfl
   ·have VI:NG Tryz.prog [Gb] args:=ha
    cases VI with
    |cons hx hr=>
     cases hr with
     |nil=>
      obtain⟨bs,hb,hq⟩:=Ur hx;rw[hb];exact CW abp bs hq
theorem fnStoreSame:Rows.FnStoreSameSaid:=
 OpenClaim.holds_of_wide 4 Tryz.f4 rfl rfl rfl rfl rfl rfl rfl ⟨rfl,rfl,rfl,rfl,rfl⟩ rfl rfl rfl rfl rfl (by kernel_rfl) Tryz.func4 (by kernel_rfl)
  (of_decide_eq_true (by kernel_rfl)) (by unfold Func.isWrapper;first|(rw[if_pos (by decide+kernel)];kernel_rfl)|(rw[if_neg (by decide+kernel)];exact⟨rfl,rfl⟩))
  (fun os started H enc _=>yA os started H enc)
#print axioms fnStoreSame
end Go.Proofs.YtfepbikckfehlaaGreat

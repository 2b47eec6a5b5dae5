/- Draws: something happens to a store. -/
import Derived.Test.YtfepbikckfehlaaGreatGH42
import Derived.Test.YtfepbikckfehlaaGreatGH41
set_option linter.unusedVariables false
set_option linter.unusedSimpArgs false
set_option maxHeartbeats 4000000
namespace Go.Am
open Go
def Chunk.two(c d:Chunk):Chunk:=⟨c.F++d.F,fun h=>c.P h/\d.P h,fun h h' hp hf=>⟨c.loc h h' hp.1 fun id dm=>hf id (by simp[dm]),d.loc h h' hp.2 fun id dm=>hf id (by simp[dm])⟩,fun h hp id dm=>by
 rcases aaS.1 dm with h1|h1
 ·exact c.lt h hp.1 id h1
 ·exact d.lt h hp.2 id h1⟩
end Go.Am
namespace Go.Proofs.YtfepbikckfehlaaGreat
open Go Go.Am
variable{pr:bW}(hp:cF pr)
set_option maxRecDepth 100000
theorem aj.pair{h:aG}{L:List Chunk}{c d:Chunk}(S:aj h (c::d::L)):aj h (.two c d::L):=aj.U5 [c,d] S ⟨S.get 0 rfl,S.get 1 rfl⟩ (by simp[Chunk.two])
theorem aj.Sb{h:aG}{L:List Chunk}{c d:Chunk}(S:aj h (.two c d::L)):aj h (c::d::L):=by
 have h0:c.P h/\d.P h:=S.get 0 rfl;exact S.cut rfl h0.1 h0.2
theorem Uj{f:FuncId}{args:List af}{h:aG}{L:List Chunk}{D:Chunk}{k n:Nat}{m:Nat}{P:af->Prop}{K:ef->Prop}(hM:gI f=Am.Mode.R)(UQ:pr f=none)(S:aj h (.rd k n::D::L))
  (hw: ∀L,aj h (.rd k n::D::L)->x9 (dZ pr) f args h (fun r=>∃v h1 x CR,r= .ret v h1/\aj h1 (CR:: .rd k m::D::L)/\(∀h',CR.P h'->Am.snap h' v=some x)/\P x))
  (hK: ∀x h',P x->aj h' (.rd k m::D::L)->K (.ret x h')): ∃r,cj (dZ pr) (call (dZ pr)) f args h=some r/\K r:=by
   obtain⟨x,C1,h2,hc,S2,_,hx,hC⟩:=U4 (Q:=fun x C=>P x/\C= .two (.rd k m) D) hM (aj.pair S) fun L S=>by
    obtain⟨r,hr,v,h1,x,CR,rfl,S1,hs,hx⟩:=dJ UQ (hw L (aj.Sb S));exact⟨v,h1,x,CR,.two (.rd k m) D,hr,(aj.pair (S1.front 1 rfl|>.front 2 rfl|>.swap)).swap,hs,rfl,hx,rfl⟩
   subst hC;exact⟨_,hc,hK _ _ hx (aj.Sb S2)⟩
theorem aj.Zv{h:aG}{L:List Chunk}{d:bg}{v:af}{F:List Nat}(S:aj h (.dL d v F::L)):aj h (.old h F::L):=
 S.is (c':=.old h F) (fun id dm=>⟨S.lt 0 rfl id dm,rfl⟩) rfl
theorem aj.Zw{h h':aG}{L:List Chunk}{d:bg}{v:af}{F:List Nat}(ho:cq h d v F)(S:aj h' (.old h F::L)):aj h' (.dL d v F::L):=
 S.is (c':=.dL d v F) (ho.frame fun id dm=>((show∀id∈F,id<h'.length/\h'[id]?=h[id]? from S.get 0 rfl) id dm).2) rfl
theorem cZ.Sc{h:aG}: ∀{ds:List bg}{vs:List af}{F:List Nat},cZ h ds vs F-> ∀(i:Nat) d,ds[i]?=some d-> ∃v G,vs[i]?=some v/\cq h d v G/\ ∀id∈G,id∈F
 | [],vs,F,hp,i,d,hd=>by simp at hd
 |p::ps,vs,F,hp,i,d,hd=>by
  simp only[cZ]at hp;obtain⟨v,fx,F1,F2,rfl,rfl,h1,h2⟩:=hp
  cases i with
  |zero=>simp at hd;subst hd;exact⟨v,F1,rfl,h1,fun id dm=>by simp[dm]⟩
  |succ i=>
   simp at hd;obtain⟨v2,G,e1,e2,e3⟩:=cZ.Sc h2 i d hd;exact⟨v2,G,by simpa using e1,e2,fun id dm=>by simp[e3 id dm]⟩
theorem jy{h:aG}{s:bN}{v:af}{F:List Nat}(ho:cq h s.da v F): ∃W T V,v= .agg [W,T,V,i64 s.now,i64 s.keep]/\[W,T,V,i64 s.now,i64 s.keep].all af.bQ=true/\
  ((W= .nil/\s.bc=[])∨ ∃Gj,W= .own Gj 0 s.bc.length/\Gj∈F/\h[Gj]?=some (.arr 1 (s.bc.map i64)))/\
  ((T= .nil/\s.aH=[])∨ ∃O0 vT,T= .own O0 0 s.aH.length/\O0∈F/\h[O0]?=some (.arr 1 vT)/\ ∀(i:Nat) z,s.aH[i]?=some z-> ∃O,vT[i]?=some O/\O.bQ=true/\((O= .nil/\z=[])∨
    ∃Sv vz,O= .own Sv 0 z.length/\Sv∈F/\h[Sv]?=some (.arr 2 vz)/\ ∀(j:Nat) x,z[j]?=some x-> ∃P G,vz[j]?=some (.agg [P,i64 x.w])/\cq h (iR.d x.row) P G/\ ∀id∈G,id∈F)):=by
     obtain⟨bc,aH,aL,now,keep⟩:=s;obtain⟨vv,rfl,hu⟩:=iF.1 ho;obtain⟨W,u1,H1,G1,rfl,rfl,g1,h2⟩:=tj.1 hu;obtain⟨T,u2,H2,G2,rfl,rfl,g2,h3⟩:=tj.1 h2;obtain⟨V,u3,H3,G3,rfl,rfl,g3,h4⟩:=tj.1 h3;obtain⟨w4,rfl,h5⟩:=pc.1 h4;obtain⟨w5,rfl,h6⟩:=pc.1 h5;obtain⟨rfl,rfl⟩:=fO.1 h6;refine⟨W,T,V,rfl,bM g1.uB.2 (bM g2.uB.2 (bM g3.uB.2 rfl)),?_,?_⟩
     ·simp only[cq]at g1;rcases g1 with⟨e1,e2,rfl⟩|⟨id,vs,Fs,rfl,e1,e2,rfl⟩
      ·exact .inl ⟨rfl,by simpa using e1⟩
      ·refine .inr ⟨id,by simp,by simp,?_⟩
       have key: ∀(xs:List Int) vs F,cZ h (xs.map bg.i) vs F->vs=xs.map i64:=by
        intro xs
        induction xs with
        |nil=>intro vs F ho;simp only[abA,cZ]at ho;rw[ho.1];rfl
        |cons x xs ih=>
         intro vs F ho;simp only[aao,cZ]at ho;obtain⟨v,fx,F1,F2,rfl,rfl,h1,h2⟩:=ho;simp only[cq]at h1;rw[ih _ _ h2,h1.1];rfl
       rw[e1,key _ _ _ e2]
     ·simp only[cq]at g2;rcases g2 with⟨e1,e2,rfl⟩|⟨id,vT,Fs,rfl,e1,e2,rfl⟩
      ·exact .inl ⟨rfl,by simpa using e1⟩
      ·refine .inr ⟨id,vT,by simp,by simp,e1,fun i z hz=>?_⟩;obtain⟨O,G,hO,oO,hG⟩:=cZ.Sc e2 i (aI.da z) (by rw[aba,hz];rfl);refine⟨O,hO,(show cq h (.a 2 (z.map Item.d)) O G from oO).uB.2,?_⟩;simp only[aI.da,cq]at oO;rcases oO with⟨c1,c2,rfl⟩|⟨Sv,vz,Gs,rfl,c1,c2,rfl⟩
       ·exact .inl ⟨rfl,by simpa using c1⟩
       ·refine .inr ⟨Sv,vz,by simp,by have:=hG Sv (by simp);simp[this],c1,fun j x hx=>?_⟩;obtain⟨u,G5,hu5,ou,hG5⟩:=cZ.Sc c2 j x.d (by rw[aba,hx];rfl);obtain⟨P,rfl,oP⟩:=Item.open ou;exact⟨P,G5,hu5,oP,fun zS acv=>by have:=hG zS (by simp[hG5 zS acv]);simp[this]⟩
def Jm(n:Nat)(z:List Item):Prop:=z.length<=n/\ ∀x∈z,x.row.length<=10
theorem xl{n:Nat}{z:List Item}{r:List Int}{w:Int}(hz:Jm n z)(hr:r.length<=10):Jm (n+1) (hY z r w):=by
 refine⟨aa3 (wL _ _ _) (by have:=hz.1;omega),fun x hx=>?_⟩;rcases qM x hx with e|⟨y,hy,e⟩
 ·rw[e];exact hr
 ·rw[e];exact hz.2 y hy
theorem pF{n:Nat}{z:List Item}(hz:Jm n z)(hn:n<=100):ij z:=⟨by have:=hz.1;simp[dB];omega,fun x hx=>by have:=hz.2 x hx;simp[dB];omega⟩
theorem O5(hp:cF pr){s:bN}(hw:s.bc.length=s.aH.length)(hl:s.aH.length<=3)(Iu: ∀w∈s.bc,1<=w/\w<=6)(htr: ∀z∈s.aH,dS z=true){v:af}{F:List Nat}{h:aG}{L:List Chunk}{k n:Nat}(S:aj h (.rd k n:: .dL s.da v F::L))(hn:n<=90000000000){K:ef->Prop}
  (hK: ∀(aK:List (List Item)) h',aK.length<=3->(∀z∈aK,ij z)->aj h' (.rd k (n+1000):: .dL s.da v F::L)->K (.ret (bX.enc aK) h')):
  ∃r,cj (dZ pr) (call (dZ pr)) 86 [.ptr k 0 0,v] h=some r/\K r:=by
   have ho:cq h s.da v F:=S.get 1 rfl
   refine Uj (D:=.old h F) (m:=n+1000) (P:=fun x=>∃aK:List (List Item),x=bX.enc aK/\aK.length<=3/\ ∀z∈aK,ij z) rfl (hp.out _ rfl) (aj.Zv S.swap).swap (fun L Sw=>?_) fun x h' hx S1=>by
    obtain⟨aK,rfl,h1,h2⟩:=hx;exact hK aK h' h1 h2 (aj.Zw ho S1.swap).swap
   clear hK K;obtain⟨W,T,V,rfl,gN,hW,hT⟩:=jy ho;conv=>whnf
   obtain⟨bc,aH,aL,now,keep⟩:=s;dsimp only at hw hl Iu htr gN hW hT;clear S;have S:=Sw;intro k1 a1 eg er;replace S:=(S.alloc eg er).front 2 rfl;dsimp only[List.eraseIdx]at S;replace S:=S.q2;have S0:=aj.lJ 1 S;clear S;have S:=S0.swap;clear S0;conv=>whnf
   rcases hT with⟨rfl,rfl⟩|⟨O0,vT,rfl,hTF,hTh,hTt⟩
   ·skip;refine dQ (fun m tm hp=>∃(j:Nat)(O:af)(FO:List Nat)(outs:List (List Item)),j+m=0/\tm 5=O/\tm 6=i64 (j:Nat)/\aj hp (.rd k (n+100*j):: .jA 1 (outs.map aI.d) O FO:: .old h F:: .row k1 (.box (.agg [W,.nil,V,i64 now,i64 keep]))::L)/\(outs.length=j)/\(∀z∈outs,Jm 3 z)) (fun mi U2 hq bG hI=>?_) (0) ⟨0,.nil,[],[],by simp,rfl,rfl,S,(rfl),(by simp)⟩;obtain⟨i,O,FO,outs,hi,e5,e6,S2,OW,Fx⟩:=hI;have k0:=bG 0 (by kernel_rfl);conv at k0=>rhs;whnf
    have k3:=bG 3 (by kernel_rfl);conv at k3=>rhs;whnf
    refine⟨[(0,_),(3,_),(5,_),(6,_)],⟨k0,k3,e5,e6,trivial⟩,?_⟩;clear bG k0 k3 e5 e6;replace S:=S2;clear S2;conv=>whnf
    have xE:i<4611686018427387904:=by omega
    refine aC (S.row 3 rfl) ?_;conv=>whnf
    conv=>whnf
    exact⟨_,rfl,_,_,_,_,rfl,(aj.fm (aj.ek (S.drop 3).swap).swap (by omega)).swap,fun h' iP=>(cq.snap (d:=bX.d outs) iP (by have:=iW outs;omega)).trans (by rw[bX.fG]),outs,rfl,by simp only[abj]at*;omega,fun z hz=>pF (Fx z hz) (by omega)⟩
   ·rcases hW with⟨rfl,hW0⟩|⟨Gj,rfl,hWF,hWh⟩
    ·have ht0:aH=[]:=aaM.1 (by rw[<-hw,hW0];rfl);subst ht0;refine dQ (fun m tm hp=>∃(j:Nat)(O:af)(FO:List Nat)(outs:List (List Item)),j+m=0/\tm 5=O/\tm 6=i64 (j:Nat)/\aj hp (.rd k (n+100*j):: .jA 1 (outs.map aI.d) O FO:: .old h F:: .row k1 (.box (.agg [.nil,.own O0 0 0,V,i64 now,i64 keep]))::L)/\(outs.length=j)/\(∀z∈outs,Jm 3 z)) (fun mi U2 hq bG hI=>?_) (0) ⟨0,.nil,[],[],by simp,rfl,rfl,S,(rfl),(by simp)⟩;obtain⟨i,O,FO,outs,hi,e5,e6,S2,OW,Fx⟩:=hI;have k0:=bG 0 (by kernel_rfl);conv at k0=>rhs;whnf
     have k3:=bG 3 (by kernel_rfl);conv at k3=>rhs;whnf
     refine⟨[(0,_),(3,_),(5,_),(6,_)],⟨k0,k3,e5,e6,trivial⟩,?_⟩;clear bG k0 k3 e5 e6;replace S:=S2;clear S2;conv=>whnf
     have xE:i<4611686018427387904:=by omega
     refine aC (S.row 3 rfl) ?_;conv=>whnf
     conv=>whnf
     exact⟨_,rfl,_,_,_,_,rfl,(aj.fm (aj.ek (S.drop 3).swap).swap (by omega)).swap,fun h' iP=>(cq.snap (d:=bX.d outs) iP (by have:=iW outs;omega)).trans (by rw[bX.fG]),outs,rfl,by simp only[abj]at*;omega,fun z hz=>pF (Fx z hz) (by omega)⟩
    ·skip;refine dQ (fun m tm hp=>∃(j:Nat)(O:af)(FO:List Nat)(outs:List (List Item)),j+m=aH.length/\tm 5=O/\tm 6=i64 (j:Nat)/\aj hp (.rd k (n+100*j):: .jA 1 (outs.map aI.d) O FO:: .old h F:: .row k1 (.box (.agg [.own Gj 0 bc.length,.own O0 0 aH.length,V,i64 now,i64 keep]))::L)/\(outs.length=j)/\(∀z∈outs,Jm 3 z)) (fun mi U2 hq bG hI=>?_) (aH.length) ⟨0,.nil,[],[],by simp,rfl,rfl,S,(rfl),(by simp)⟩;obtain⟨i,O,FO,outs,hi,e5,e6,S2,OW,Fx⟩:=hI;have k0:=bG 0 (by kernel_rfl);conv at k0=>rhs;whnf
     have k3:=bG 3 (by kernel_rfl);conv at k3=>rhs;whnf
     refine⟨[(0,_),(3,_),(5,_),(6,_)],⟨k0,k3,e5,e6,trivial⟩,?_⟩;clear bG k0 k3 e5 e6;replace S:=S2;clear S2;conv=>whnf
     have xE:i<4611686018427387904:=by omega
     refine aC (S.row 3 rfl) ?_;conv=>whnf
     refine ae (fun g1=>?_) (fun g1=>?_)
     ·have nK:i<aH.length:=by simpa using g1
      obtain⟨O2,hO,cO,hOz⟩:=hTt i aH[i] (aab nK);have hO':vT[0+((i:Nat):Int).toNat]?=some O2:=by rw[aaK,aaa];exact hO
      have Dw:=Iu (bc[i]'(by omega)) (aac (by omega));have Z8:(bc.map i64)[0+((i:Nat):Int).toNat]?=some (i64 (bc[i]'(by omega))):=by rw[aaK,aaa,aba,aab (by omega)];rfl
      have uj:=htr _ (aac nK);generalize bc[i]'(by omega)=wi at Dw Z8;generalize aH[i]=zt at hOz uj;have Md:=(dA uj);conv=>whnf
      refine dV hp _ S (by omega) fun c h3 hc S1=>?_;clear S;have S:=(aj.lJ 2 S1).swap;clear S1;have MR:0<=c/\c<=3:=by unfold Sy at hc;omega
      conv=>whnf
      refine dQ (fun m tm hp=>∃(j:Nat)(D:af)(FD:List Nat)(zd:List Item)(e:Int),j+m=c.toNat/\tm 7=D/\tm 8=i64 e/\aj hp (.rd k (n+100*i+1+12*j):: .jA 2 (zd.map Item.d) D FD:: .jA 1 (outs.map aI.d) O FO:: .old h F:: .row k1 (.box (.agg [.own Gj 0 bc.length,.own O0 0 aH.length,V,i64 now,i64 keep]))::L)/\(Jm j zd)/\(e=c-(j:Int))) (fun m tm hq bG hI=>?_) (c.toNat) ⟨0,.nil,[],[],c,by simp,rfl,rfl,S,(⟨by simp,by simp⟩),(by simp)⟩;obtain⟨j,D,FD,zd,e,hj,e7,e8,S2,hz,he⟩:=hI;have k0:=bG 0 (by kernel_rfl);conv at k0=>rhs;whnf
      have k3:=bG 3 (by kernel_rfl);conv at k3=>rhs;whnf
      have k5:=bG 5 (by kernel_rfl);conv at k5=>rhs;whnf
      have k6:=bG 6 (by kernel_rfl);conv at k6=>rhs;whnf
      refine⟨[(0,_),(3,_),(5,_),(6,_),(7,_),(8,_)],⟨k0,k3,k5,k6,e7,e8,trivial⟩,?_⟩;clear bG k0 k3 k5 k6 e7 e8;replace S:=S2;clear S2;conv=>whnf
      have hold: ∀id∈F,id<hq.length/\hq[id]?=h[id]?:=S.get 3 rfl;have hTr:=((hold O0 hTF).2).trans hTh;refine ae (fun g2=>?_) (fun g2=>?_)
      ·have hj:(j:Int)<c:=by simp at g2;omega
       refine aC (S.row 4 rfl) ?_;conv=>whnf
       refine⟨_,hTr,⟨by omega,by omega⟩,?_⟩;conv=>whnf
       refine .inr ⟨_,_,_,hTr,hO',?_⟩;rcases hOz with⟨rfl,rfl⟩|⟨Sv,vz,rfl,hzF,hzh,O1⟩
       ·skip;refine aC (S.row 4 rfl) ?_;conv=>whnf
        have Cd:=S.get 3 rfl;have Vk:=(Cd Gj hWF).2.trans hWh;refine⟨_,Vk,⟨by omega,by omega⟩,?_⟩;conv=>whnf
        refine .inr ⟨_,_,_,Vk,Z8,?_⟩;conv=>whnf
        refine uf hp _ (by omega) S (by omega) fun xs rv h5 CB yQ S1=>?_;clear S;conv=>whnf
        intro kb ab CL CM;replace S1:=S1.alloc CL CM;conv=>whnf
        replace S1:=S1.swap;refine nZ hp [1,1,1,2,1,1,-1] (by simp) (by simp) S1 (by omega) fun w h6 Cq S2=>?_;clear S1;have S:=S2.front 2 rfl;dsimp only[List.eraseIdx]at S;clear S2;conv=>whnf
        refine l8 hp zd xs w _ (by have:=hz.1;simp[dB];omega) (pF hz (by omega)).2 (by simp[dB];omega) S (fun h' S'=>iR.snap ((aj.kn (S'.front 1 rfl)).get 0 rfl)) fun v' h7 F' S1=>?_;have S2:=(S1.drop 2).swap;dsimp only[List.eraseIdx]at S2;clear S1;clear S;have S:=S2;clear S2;conv=>whnf
        exact⟨m-1,by omega,j+1,_,_,_,_,by omega,rfl,rfl,aj.fm S (by omega),xl hz (by omega),by rw[aaC];omega⟩
       ·conv=>whnf
        refine ae (fun gl=>?_) (fun gl=>?_)
        ·conv=>whnf
         refine dV hp _ S (by omega) fun y h4 hy S1=>?_;replace S:=S1;clear S1;conv=>whnf
         refine ae (fun gp=>?_) (fun gp=>?_)
         ·conv=>whnf
          refine dV hp _ S (by omega) fun x2 h5 yQ S1=>?_;replace S:=S1;clear S1;have hx3:0<=x2/\x2<zt.length:=by unfold Sy at yQ;simp at gl;omega
          have Cd:=S.get 3 rfl;have Zx:=(Cd Sv hzF).2.trans hzh;obtain⟨P,G,Pp,oP,hGF⟩:=O1 x2.toNat (zt[x2.toNat]'(by omega)) (aab (by omega));have Dq:=Md.2 (zt[x2.toNat]'(by omega)) (aac _);generalize zt[x2.toNat]'(by omega)=xr at Pp oP Dq;have acy:vz[0+x2.toNat]?=some (.agg [P,i64 xr.w]):=by rw[aaK];exact Pp
          conv=>whnf
          refine⟨_,Zx,⟨hx3.1,hx3.2⟩,?_⟩;conv=>whnf
          refine .inr ⟨_,_,_,Zx,acy,?_⟩;refine gH (v:=P) (by rfl) ?_;conv=>whnf
          replace S:=S.q1;refine l8 hp zd xr.row (-1) P (by have:=hz.1;simp[dB];omega) (pF hz (by omega)).2 (by simp[dB];omega) S (fun h' S'=>iR.snap (oP.frame fun id dm=>((S'.get 2 rfl) id (hGF id dm)).2)) fun v' h7 F' S1=>?_;have S2:=S1.swap;clear S1;clear S;have S:=S2;clear S2;conv=>whnf
          exact⟨m-1,by omega,j+1,_,_,_,_,by omega,rfl,rfl,aj.fm S (by omega),xl hz (by omega),by rw[aaC];omega⟩
         ·skip;refine aC (S.row 4 rfl) ?_;conv=>whnf
          have Cd:=S.get 3 rfl;have Vk:=(Cd Gj hWF).2.trans hWh;refine⟨_,Vk,⟨by omega,by omega⟩,?_⟩;conv=>whnf
          refine .inr ⟨_,_,_,Vk,Z8,?_⟩;conv=>whnf
          refine uf hp _ (by omega) S (by omega) fun xs rv h5 CB yQ S1=>?_;clear S;conv=>whnf
          intro kb ab CL CM;replace S1:=S1.alloc CL CM;conv=>whnf
          replace S1:=S1.swap;refine nZ hp [1,1,1,2,1,1,-1] (by simp) (by simp) S1 (by omega) fun w h6 Cq S2=>?_;clear S1;have S:=S2.front 2 rfl;dsimp only[List.eraseIdx]at S;clear S2;conv=>whnf
          refine l8 hp zd xs w _ (by have:=hz.1;simp[dB];omega) (pF hz (by omega)).2 (by simp[dB];omega) S (fun h' S'=>iR.snap ((aj.kn (S'.front 1 rfl)).get 0 rfl)) fun v' h7 F' S1=>?_;have S2:=(S1.drop 2).swap;dsimp only[List.eraseIdx]at S2;clear S1;clear S;have S:=S2;clear S2;conv=>whnf
          exact⟨m-1,by omega,j+1,_,_,_,_,by omega,rfl,rfl,aj.fm S (by omega),xl hz (by omega),by rw[aaC];omega⟩
        ·skip;refine aC (S.row 4 rfl) ?_;conv=>whnf
         have Cd:=S.get 3 rfl;have Vk:=(Cd Gj hWF).2.trans hWh;refine⟨_,Vk,⟨by omega,by omega⟩,?_⟩;conv=>whnf
         refine .inr ⟨_,_,_,Vk,Z8,?_⟩;conv=>whnf
         refine uf hp _ (by omega) S (by omega) fun xs rv h5 CB yQ S1=>?_;clear S;conv=>whnf
         intro kb ab CL CM;replace S1:=S1.alloc CL CM;conv=>whnf
         replace S1:=S1.swap;refine nZ hp [1,1,1,2,1,1,-1] (by simp) (by simp) S1 (by omega) fun w h6 Cq S2=>?_;clear S1;have S:=S2.front 2 rfl;dsimp only[List.eraseIdx]at S;clear S2;conv=>whnf
         refine l8 hp zd xs w _ (by have:=hz.1;simp[dB];omega) (pF hz (by omega)).2 (by simp[dB];omega) S (fun h' S'=>iR.snap ((aj.kn (S'.front 1 rfl)).get 0 rfl)) fun v' h7 F' S1=>?_;have S2:=(S1.drop 2).swap;dsimp only[List.eraseIdx]at S2;clear S1;clear S;have S:=S2;clear S2;conv=>whnf
         exact⟨m-1,by omega,j+1,_,_,_,_,by omega,rfl,rfl,aj.fm S (by omega),xl hz (by omega),by rw[aaC];omega⟩
      ·have cD:=(show sv 2 _ _ D FD from S.get 1 rfl).1.cell;conv=>whnf
       refine ep cD.1 ?_;conv=>whnf
       replace S:=aj.ek (S.front 1 rfl);replace S:=S.q2;intro pI pJ dT dU;replace S:=S.alloc dT dU;conv=>whnf
       refine⟨trivial,?_⟩;conv=>whnf
       refine⟨[_],bT (S.row 0 rfl),dI cD.1 cD.2,?_⟩;replace S:=S.drop 0;dsimp only[List.eraseIdx]at S;refine lp (sz:=1) (d:=aI.d zd) S (by simp[bB];omega) fun k5 h5 F5 S1=>?_;clear S;have S:=S1.swap;clear S1;conv=>whnf
       have hz3:Jm 3 zd:=⟨by have:=hz.1;omega,hz.2⟩
       exact⟨mi-1,by omega,i+1,_,_,outs++[zd],by omega,rfl,aP i xE,aj.fm (by rw[aaD];exact S) (by omega),by simp[OW],fun y hy=>by
        rcases aaS.1 hy with hy|hy
        ·exact Fx y hy
        ·simp at hy;subst hy;exact hz3⟩
     ·have bp:i=aH.length:=by simp at g1;omega
      conv=>whnf
      exact⟨_,rfl,_,_,_,_,rfl,(aj.fm (aj.ek (S.drop 3).swap).swap (by omega)).swap,fun h' iP=>(cq.snap (d:=bX.d outs) iP (by have:=iW outs;omega)).trans (by rw[bX.fG]),outs,rfl,by omega,fun z hz=>pF (Fx z hz) (by omega)⟩
end Go.Proofs.YtfepbikckfehlaaGreat
set_option maxHeartbeats 4000000
namespace Go.Proofs.YtfepbikckfehlaaGreat
open Go Go.Am
set_option maxRecDepth 100000
theorem LH{n w:Int}(h:col n w=true):col n 6=true:=by
 simp only[col,xz,decide_eq_true_iff]at h⊢;omega
theorem FX{c:Cell}{w:Int}(h:fe c w=true):fe c 6=true:=by
 unfold fe at h⊢;split
 ·rename_i g;rw[if_pos g]at h;simp only[xz]at h⊢;exact⟨LH h.1,h.2⟩
 ·rename_i g;rw[if_neg g]at h;split
  ·rename_i g2
   rwa [if_pos g2]at h
  ·rename_i g2;rw[if_neg g2]at h;split
   ·rename_i g3;rw[if_pos g3]at h;simp only[xz]at h⊢;exact⟨LH h.1,LH h.2.1,h.2.2⟩
   ·rename_i g3;rw[if_neg g3]at h;cases h
theorem M9{w:Int}: ∀{xs pre:List Int},ld pre w xs=true->ld pre 6 xs=true
 | [],_,_=>rfl
 |x::xs,pre,h=>by
  simp only[ld,xz]at h⊢;exact⟨LH h.1,h.2.1,M9 h.2.2⟩
theorem Uk{x:Int}(h:1<=iD x):1<=x:=(tB h).2.1
theorem Sd{ws:List Int}(xq:ws.length<=3){au n:Int}{aD:Test}{cells:List Cell}{a b:Int}{aq:List Int}{agg c:Int}{ao:List aA}{l:List Int}(h1:au=1->l=ws)(h:1<=iD (bU (.mk au n aD cells a b aq agg c ao) l)):own (.mk au n aD cells a b aq agg c ao)=true:=by
 have h:=Uk h;unfold own;unfold bU at h;dsimp only at h⊢
 by_cases k1:au=1
 ·rw[if_pos k1]at h⊢;rw[h1 k1]at h;split at h
  ·rename_i g;simp only[xz,decide_eq_true_iff]at g⊢;omega
  ·omega
 rw[if_neg k1]at h⊢
 by_cases k2:au=2
 ·rw[if_pos k2]at h⊢;split at h
  ·rename_i g;simp only[kZ,xz]at g⊢;exact⟨g.1,FX g.2.1,FX g.2.2⟩
  ·omega
 rw[if_neg k2]at h⊢
 by_cases k3:au=3
 ·rw[if_pos k3]at h⊢;split at h
  ·rename_i g;simp only[xz,aaj]at g;simp only[j9,xz,aaj];exact⟨fun x hx=>FX (g.2.2 x hx),g.1,g.2.1⟩
  ·omega
 rw[if_neg k3]at h⊢
 by_cases k4:au=4
 ·rw[if_pos k4]at h⊢;split at h
  ·rename_i g;simp only[xz]at g⊢;exact⟨LH g.1,LH g.2⟩
  ·omega
 rw[if_neg k4]at h⊢
 by_cases k7:au=7
 ·rw[if_neg (by omega),if_neg (by omega)]at h;rw[if_pos k7];split at h
  ·rename_i g;simp only[eU,xz]at g⊢;exact⟨⟨M9 g.2.2.1.1,g.2.2.1.2⟩,g.1,g.2.1,LH g.2.2.2⟩
  ·omega
 rw[if_neg k7]
theorem Ce{ws:List Int}{d:Nat}: ∀{ps:List aA}{l:List Int},nG ws d ps=some l-> ∀q∈ps,1<=du ws d q
 | [],_,_,q,hq=>by simp at hq
 |p::ps,l,h,q,hq=>by
  rw[nG]at h;split at h
  ·cases h
  ·rename_i g
   cases h2:nG ws d ps with
   |none=>rw[h2]at h;cases h
   |some l2=>
    rcases aaz.1 hq with rfl|hq
    ·omega
    ·exact Ce h2 q hq
theorem Cf{ws:List Int}(xq:ws.length<=3): ∀(d:Nat)(p:aA),1<=du ws d p->form d p=true
 |0,p,h=>by simp[du]at h
 |d+1,.mk au n aD cells a b aq agg c ao,h=>by
  rw[du]at h;split at h
  ·rename_i tN;simp only[shaped,aA.au,aA.ao,xz]at tN;simp only[form,aA.au,aA.ao,xz,aaj];refine⟨tN.1,tN.2,?_⟩;split at h
   ·rename_i k1;refine⟨Sd xq (fun _=>rfl) h,fun q hq=>?_⟩;have h1:=tN.1;simp only[cU,k1,if_true,beq_iff_eq]at h1;have:ao=[]:=aaM.1 (by omega);subst this;simp at hq
   ·rename_i k1;split at h
    ·omega
    ·rename_i l hl;exact⟨Sd xq (fun k=>absurd k k1) h,fun q hq=>Cf xq d q (Ce hl q hq)⟩
  ·omega
theorem uI{ws:List Int}{p:aA}(h:1<=dY p ws):fit p=true/\dY p ws=du ws 6 p:=by
 unfold dY at h⊢;split at h
 ·rename_i g;simp only[xz,decide_eq_true_iff]at g;rw[if_pos (by simp[g])];exact⟨by simp only[fit,xz,decide_eq_true_iff];exact⟨Cf g.1 6 p h,g.2⟩,rfl⟩
 ·omega
theorem iz{ws:List Int}{now keep:Int}{v:View}:gF ws now keep v=true↔(fit v.hU.ez=true/\ni 6 v.hU=true)/\1<=dY v.hU.ez ws/\0<=v.bO/\v.bO<=now/\jN v.base (dY v.hU.ez ws)=true/\v.aZ.length<=40/\
  eC (if v.bO>keep then v.bO else keep) now (dY v.hU.ez ws) none v.aZ=true:=by
   simp only[gF,yb,xz,decide_eq_true_iff]
theorem fa{s:bN}:dz s=true↔s.bc.length<=3/\s.aH.length=s.bc.length/\s.aL.length<=3/\0<=s.keep/\s.keep<=s.now/\s.now<=40/\jt s.bc s.aH=true/\ ∀v∈s.aL,gF s.bc s.now s.keep v=true:=by
 simp only[dz,xz,decide_eq_true_iff,aaj]
theorem pG{z:List Item}{w:Int}:jN z w=true↔eB w z/\dS z=true:=by
 simp only[jN,nP,xz,aaj,decide_eq_true_iff,eB]
theorem oi{z:List Item}{w:Int}:td z w=true↔((∀x∈z,1<=x.w)/\eB w z)/\dS z=true:=by
 simp only[td,xz,aaj,decide_eq_true_iff,eB];exact⟨fun h=>⟨⟨fun x hx=>(h.1 x hx).1,fun x hx=>(h.1 x hx).2⟩,h.2⟩,fun h=>⟨fun x hx=>⟨h.1.1 x hx,h.1.2 x hx⟩,h.2⟩⟩
theorem nv: ∀{ws:List Int}{ts:List (List Item)},jt ws ts=true-> ∀(i:Nat) z v,ts[i]?=some z->ws[i]?=some v->(1<=v/\v<=6)/\td z v=true
 |w::ws,t::ts,h,i,z,v,hz,hv=>by
  simp only[jt,xz,decide_eq_true_iff]at h
  cases i with
  |zero=>simp at hz hv;subst hz hv;exact⟨⟨h.1.1,h.1.2.1⟩,h.1.2.2⟩
  |succ i=>exact nv h.2 i z v (by simpa using hz) (by simpa using hv)
 | [],_,_,i,z,v,hz,hv=>by simp at hv
 |_::_,[],_,i,z,v,hz,hv=>by simp at hz
theorem Jn{w dP:Int}: ∀{ps:List dg}{z:List Item},eB w z->(∀p∈ps,eB w p.out)->eB w (mP dP z ps)
 | [],z,hz,_=>hz
 |p::ps,z,hz,hp=>by
  simp only[mP];refine Jn ?_ fun q hq=>hp q (by simp[hq]);split
  ·exact jG hz (hp p (by simp))
  ·exact hz
def uv(s:bN):Prop:=dz s=true/\s.bc=[2,2]/\ ∀v∈s.aL,mT [2,2] 6 v.hU (dY v.hU.ez [2,2])
theorem Se{ps:List dg}(h: ∀p∈ps,dS p.out=true):bg.fV (ps.map dg.d)<=700*ps.length:=by
 induction ps with
 |nil=>simp[bg.fV]
 |cons p ps ih=>
  have h1:=ih fun q hq=>h q (by simp[hq]);have h2:=yq (h p (by simp));simp only[aao,bg.fV,dg.d,bg.fA,aak];simp only[aI.d,bg.fA]at h2;simp only[aI.d,bg.fA];omega
theorem D8{s:bN}(h:uv s): ∀v∈s.aL,many 6 v.hU.ez<=10/\1<=dY v.hU.ez [2,2]:=fun v hv=>by
 have h1:=iz.1 ((fa.1 h.1).2.2.2.2.2.2.2 v hv);rw[h.2.1]at h1;exact⟨(Lv h1.1.1).2.2,h1.2.1⟩
theorem Cg{s:bN}(h:uv s):s.d.fA<=400000:=by
 have h1:=fa.1 h.1
 have hv: ∀v∈s.aL,v.d.fA<=104000:=fun v hv=>by
  have h2:=iz.1 (h1.2.2.2.2.2.2.2 v hv);have h3:=Lw 6 _ _ (h.2.2 v hv);have h4:=(D8 h v hv).1;obtain⟨z1,z2,z3⟩:=tW (h1.2.2.2.2.2.2.2 v hv);have h5:=yq z1;have h6:=Se z2;rw[nk];omega
 have uh: ∀vs:List View,(∀v∈vs,v.d.fA<=104000)->bg.fV (vs.map View.d)<=104000*vs.length:=by
  intro vs
  induction vs with
  |nil=>intro _;simp[bg.fV]
  |cons v vs ih=>
   intro hx;have a1:=ih fun y hy=>hx y (by simp[hy]);have a2:=hx v (by simp);simp only[aao,bg.fV,aak];omega
 have a1:=uh _ hv
 have hz: ∀z∈s.aH,dS z=true:=fun z hz=>by
  obtain⟨i,hi,rfl⟩:=List.mem_iff_getElem.1 hz;exact(oi.1 (nv h1.2.2.2.2.2.2.1 i _ (s.bc[i]'(by omega)) (aab hi) (aab (by omega))).2).2
 have a2:=B4 hz;rw[eK];omega
theorem LI:uv Ca:=⟨by rfl,rfl,fun v hv=>by simp[Ca]at hv⟩
theorem Ea{s:bN}(h:uv s):(∀(i:Nat) z v,s.aH[i]?=some z->s.bc[i]?=some v->dS z=true/\eB v z)/\s.aH.length=2/\ ∀z∈s.aH,dS z=true:=by
 have h1:=fa.1 h.1
 have key: ∀(i:Nat) z v,s.aH[i]?=some z->s.bc[i]?=some v->dS z=true/\eB v z:=fun i z v hz hv=>by
  have:=oi.1 (nv h1.2.2.2.2.2.2.1 i z v hz hv).2;exact⟨this.2,this.1.2⟩
 refine⟨key,by rw[h1.2.1,h.2.1];rfl,fun z hz=>?_⟩;obtain⟨i,hi,rfl⟩:=List.mem_iff_getElem.1 hz;exact(key i _ (s.bc[i]'(by omega)) (aab hi) (aab (by omega))).1
theorem Eb{s:bN}{p:aA}(h:uv s):uv (uF s p).1:=by
 have h1:=fa.1 h.1;unfold uF;rw[if_neg (by simp[h.1])];split
 ·exact h
 ·rename_i hw;split
  ·exact h
  ·rename_i hl
   cases hs:jg (iX p) s.aH with
   |none=>exact h
   |some r=>
    obtain⟨f,base⟩:=r;simp only;have Cq:1<=dY p s.bc:=by omega
    obtain⟨hf,e4⟩:=uI Cq;obtain⟨f1,f2,f3⟩:=Lv hf;have dN:=jK 6 p f2 (by omega) (by rw[<-e4];exact Cq);rw[<-e4]at dN;obtain⟨g1,g2,g3,g4⟩:=ud (Ea h).1 6 _ f _ base dN hs;rw[zu]at g4;refine⟨fa.2 ⟨h1.1,h1.2.1,by simp;omega,h1.2.2.2.1,h1.2.2.2.2.1,h1.2.2.2.2.2.1,h1.2.2.2.2.2.2.1,fun v hv=>?_⟩,h.2.1,fun v hv=>?_⟩
    ·rcases aaS.1 hv with hv|hv
     ·exact h1.2.2.2.2.2.2.2 v hv
     ·simp at hv;subst hv;exact iz.2 ⟨⟨by rw[g4];exact hf,z8 6 _ _ g1⟩,by rw[g4];exact Cq,by dsimp only;omega,by dsimp only;omega,pG.2 ⟨by rw[g4];exact g3,g2⟩,by simp,rfl⟩
    ·rcases aaS.1 hv with hv|hv
     ·exact h.2.2 v hv
     ·simp at hv;subst hv;dsimp only;rw[g4];rw[h.2.1]at g1;exact g1
theorem LJ{s:bN}{view fuel:Int}(h:uv s):uv (r5 s view fuel).1:=by
 have h1:=fa.1 h.1;unfold r5;rw[if_neg (by simp[h.1])];split
 ·exact h
 ·rename_i hb;obtain⟨j,rfl⟩: ∃j:Nat,view=(j:Int):=⟨view.toNat,by omega⟩;have hj:j<s.aL.length:=by omega
  simp only[aaa];have m7:(s.aL.drop j).take 1=[s.aL[j]]:=by rw[aaf hj];rfl
  rw[m7];have lT:=aac hj;generalize s.aL[j]=v0 at lT
  have sL: ∀v∈s.aL.take j++[v0].map (yt · fuel)++s.aL.drop (j+1),v∈s.aL∨v=yt v0 fuel:=fun v hv=>by
   simp only[aaS,aao,abA,List.mem_singleton]at hv;rcases hv with(hv|hv)|hv
   ·exact .inl (abz hv)
   ·exact .inr hv
   ·exact .inl (List.mem_of_mem_drop hv)
  have dN:=B2 6 _ _ fuel (h.2.2 _ lT);have vD:=qg v0.hU fuel;refine⟨fa.2 ⟨h1.1,h1.2.1,by simp;omega,h1.2.2.2.1,h1.2.2.2.2.1,h1.2.2.2.2.2.1,h1.2.2.2.2.2.2.1,fun v hv=>?_⟩,h.2.1,fun v hv=>?_⟩
  ·rcases sL v hv with hv|rfl
   ·exact h1.2.2.2.2.2.2.2 v hv
   ·have h2:=iz.1 (h1.2.2.2.2.2.2.2 _ lT);refine iz.2 ?_;simp only[yt,vD];exact⟨⟨h2.1.1,z8 6 _ _ dN⟩,h2.2⟩
  ·rcases sL v hv with hv|rfl
   ·exact h.2.2 v hv
   ·simp only[yt,vD];exact dN
theorem tI{w lo Mc now dP:Int}: ∀{ps:List dg}{q q':Option Int},eC lo now w q ps=true->(∀p∈ps,dP<p.dP->lo<p.dP->Mc<p.dP)->(∀y,q'=some y-> ∀p∈ps,y<p.dP)->eC Mc now w q' (tE dP ps)=true
 | [],_,_,_,_,_=>rfl
 |p::ps,q,q',h,hl,hq=>by
  simp only[eC,xz,decide_eq_true_iff]at h;obtain⟨⟨h1,h2,h3,h4⟩,h5⟩:=h
  have ord: ∀{ps:List dg}{y:Int},eC lo now w (some y) ps=true-> ∀p∈ps,y<p.dP:=by
   intro ps
   induction ps with
   |nil=>intro y _ p hp;simp at hp
   |cons r rs ih=>
    intro y hy p hp;simp only[eC,xz,decide_eq_true_iff]at hy;rcases aaz.1 hp with rfl|hp
    ·exact hy.1.2.2.2
    ·have:=ih hy.2 p hp;have:=hy.1.2.2.2;omega
  simp only[tE,List.filter_cons];split
  ·rename_i g;have g':p.dP>dP:=by simpa using g
   simp only[eC,xz,decide_eq_true_iff];refine⟨⟨hl p (by simp) g' h1,h2,h3,?_⟩,tI h5 (fun r hr=>hl r (by simp[hr])) fun y hy r hr=>?_⟩
   ·cases q' with
    |none=>rfl
    |some y=>simpa using hq y rfl p (by simp)
   ·simp at hy;subst hy;exact ord h5 r hr
  ·exact tI h5 (fun r hr=>hl r (by simp[hr])) fun y hy r hr=>hq y hy r (by simp[hr])
theorem Ec{s:bN}{dP:Int}(h:uv s):uv (uG s dP).1:=by
 have h1:=fa.1 h.1;unfold uG;rw[if_neg (by simp[h.1])];split
 ·exact h
 ·rename_i g1;split
  ·exact h
  ·rename_i g2;split
   ·rename_i g3;simp only[aaj]at g3;refine⟨fa.2 ⟨h1.1,h1.2.1,by simp;omega,by dsimp only;omega,by dsimp only;omega,h1.2.2.2.2.2.1,h1.2.2.2.2.2.2.1,fun v hv=>?_⟩,h.2.1,fun v hv=>?_⟩
    ·obtain⟨u,hu,rfl⟩:=aaO.1 hv;have h2:=iz.1 (h1.2.2.2.2.2.2.2 _ hu);obtain⟨a1,a2,a3,a4,a5,a6,a7⟩:=h2;refine iz.2 ⟨a1,a2,a3,a4,pG.2 ⟨Jn (pG.1 a5).1 fun p hp=>(pG.1 (te a7 p hp)).1,g3 u hu⟩,aa3 (abH _ _) a6,?_⟩;refine tI a7 (fun p hp l1 l2=>?_) fun y hy=>by cases hy
     show(if u.bO>dP then u.bO else dP)<p.dP;split<;>split at l2<;>omega
    ·obtain⟨u,hu,rfl⟩:=aaO.1 hv;exact h.2.2 u hu
   ·exact h
theorem Ed{w lo now Rr:Int}(hn:now<=Rr): ∀{ps:List dg}{q:Option Int},eC lo now w q ps=true->eC lo Rr w q ps=true
 | [],_,_=>rfl
 |p::ps,q,h=>by
  simp only[eC,xz,decide_eq_true_iff]at h⊢;exact⟨⟨h.1.1,by omega,h.1.2.2⟩,Ed hn h.2⟩
theorem Ch{w lo now:Int}{out:List Item}(ho:jN out w=true): ∀{ps:List dg}{q:Option Int},lo<=now->(∀y,q=some y->y<=now)->eC lo now w q ps=true->eC lo (now+1) w q (ps++[⟨now+1,out⟩])=true
 | [],q,hl,hq,_=>by
  simp only[List.nil_append,eC,xz,decide_eq_true_iff];refine⟨⟨by omega,by omega,ho,?_⟩,trivial⟩
  cases q with
  |none=>rfl
  |some y=>have:=hq y rfl;simp;omega
 |p::ps,q,hl,hq,h=>by
  simp only[abD,eC,xz,decide_eq_true_iff]at h⊢;exact⟨⟨h.1.1,by omega,h.1.2.2⟩,Ch ho hl (fun y hy=>by simp at hy;omega) h.2⟩
theorem Ee{w lo now:Int}: ∀{ps:List dg}{y:Int},eC lo now w (some y) ps=true->y<=now->(ps.length:Int)<=now-y
 | [],y,_,hy=>by simp;omega
 |p::ps,y,h,hy=>by
  simp only[eC,xz,decide_eq_true_iff]at h;have:=Ee h.2 h.1.2.1;have:=h.1.2.2.2;simp only[aak];omega
theorem LK{w lo now:Int}{ps:List dg}(h:eC lo now w none ps=true)(hl:lo<=now):(ps.length:Int)<=now-lo:=by
 cases ps with
 |nil=>simp;omega
 |cons p ps=>
  simp only[eC,xz,decide_eq_true_iff]at h;have:=Ee h.2 h.1.2.1;simp only[aak];omega
theorem Ci: ∀{aH aK:List (List Item)}(i:Nat) z,(kR aH aK)[i]?=some z-> ∃t,aH[i]?=some t/\((∃u,aK[i]?=some u/\z=dt t u)∨(z=t))
 | [],_,i,z,h=>by simp[kR]at h
 |t::ts,[],i,z,h=>by
  simp only[kR]at h
  cases i with
  |zero=>simp at h;subst h;exact⟨t,rfl,.inr rfl⟩
  |succ i=>
   obtain⟨t',e1,e2⟩:=Ci (aH:=ts) (aK:=[]) i z (by simpa using h);refine⟨t',by simpa using e1,?_⟩;rcases e2 with⟨u,hu,_⟩|e2
   ·simp at hu
   ·exact .inr e2
 |t::ts,u::us,i,z,h=>by
  simp only[kR]at h
  cases i with
  |zero=>simp at h;subst h;exact⟨t,rfl,.inl ⟨u,rfl,rfl⟩⟩
  |succ i=>simpa using Ci i z (by simpa using h)
theorem vC{t:Int}{aK:List (List Item)}: ∀{vs ws:List View},gg t aK vs=some ws-> ∀w∈ws,∃v∈vs,nT t aK v=some w
 | [],ws,h,w,hw=>by simp only[gg,Option.some.injEq]at h;subst h;simp at hw
 |v::vs,ws,h,w,hw=>by
  simp only[gg]at h
  cases h1:nT t aK v with
  |none=>rw[h1]at h;cases h
  |some v'=>
   rw[h1]at h
   cases h2:gg t aK vs with
   |none=>rw[h2]at h;cases h
   |some fx=>
    rw[h2]at h;simp only[Option.some.injEq]at h;subst h;rcases aaz.1 hw with rfl|hw
    ·exact⟨v,by simp,h1⟩
    ·obtain⟨u,hu,e⟩:=vC h2 w hw;exact⟨u,by simp[hu],e⟩
theorem Cj: ∀{ws:List Int}{ts:List (List Item)},(∀(i:Nat) z v,ts[i]?=some z->ws[i]?=some v->(1<=v/\v<=6)/\td z v=true)->jt ws ts=true
 |w::ws,t::ts,h=>by
  simp only[jt,xz,decide_eq_true_iff];have h0:=h 0 t w rfl rfl
  exact⟨⟨h0.1.1,h0.1.2,h0.2⟩,Cj fun i z v hz hv=>h (i+1) z v (by simpa using hz) (by simpa using hv)⟩
 | [],_,_=>rfl
 |_::_,[],_=>rfl
theorem Ef{s:bN}{aK:List (List Item)}(h:uv s):uv (uH s aK).1:=by
 have h1:=fa.1 h.1;unfold uH;rw[if_neg (by simp[h.1])];split
 ·exact h
 ·rename_i g1;split
  ·exact h
  ·rename_i g2;split
   ·exact h
   ·rename_i g3;obtain⟨t1,t2,t3⟩:=R7 (by simpa using g1) (by omega)
    cases hv:gg (s.now+1) aK s.aL with
    |none=>exact h
    |some vs=>
     simp only
     have hr:(kR s.aH aK).any zx=false/\(kR s.aH aK).all dS=true:=by
      have wM:jR s.aH aK=0:=by simpa using g2
      unfold jR at wM;split at wM
      ·cases wM
      ·rename_i a1;split at wM
       ·rename_i a2;exact⟨by simpa using a1,a2⟩
       ·cases wM
     simp only[List.any_eq_false,aaj]at hr
     have hvw: ∀v∈s.aL,∀v',nT (s.now+1) aK v=some v'->gF s.bc (s.now+1) s.keep v'=true/\mT [2,2] 6 v'.hU (dY v'.hU.ez [2,2]):=fun v XE v' zn=>by
      have dN:=h.2.2 v XE;obtain⟨a1,a2,a3,a4,a5,a6,a7⟩:=iz.1 (h1.2.2.2.2.2.2.2 v XE);unfold nT at zn
      cases hs:jg v.hU aK with
      |none=>rw[hs]at zn;cases zn
      |some r=>
       obtain⟨f,out⟩:=r;rw[hs]at zn;simp only at zn;split at zn
       ·simp only[Option.some.injEq]at zn;subst zn;rw[h.2.1]at t1;obtain⟨b1,b2,b3,b4⟩:=ud t1 6 _ f _ out dN hs;simp only[b4];refine⟨iz.2 ?_,by simpa only[b4]using b1⟩;simp only[b4];rw[h.2.1]at a2 a5 a7⊢;have zQ:(if v.bO>s.keep then v.bO else s.keep)<=s.now:=by split<;>omega
        refine⟨⟨a1.1,z8 6 _ _ b1⟩,a2,a3,by omega,a5,?_,?_⟩
        ·have:=LK a7 zQ;have:0<=(if v.bO>s.keep then v.bO else s.keep):=by split<;>omega
         by_cases ho:out=[]
         ·rw[if_pos ho];omega
         ·rw[if_neg ho];simp only[abv,aak,abj];omega
        ·by_cases ho:out=[]
         ·rw[if_pos ho];exact Ed (by omega) a7
         ·rw[if_neg ho];exact Ch (pG.2 ⟨b3,b2⟩) zQ (fun y hy=>by cases hy) a7
       ·cases zn
     refine⟨fa.2 ⟨h1.1,by dsimp only;rw[B9];exact h1.2.1,by dsimp only;rw[vA hv];exact h1.2.2.1,h1.2.2.2.1,by dsimp only;omega,by dsimp only;omega,Cj fun i z v hz hw=>?_,fun w hw=>?_⟩,h.2.1,fun w hw=>?_⟩
     ·obtain⟨t,ht,O1⟩:=Ci i z hz;obtain⟨c1,c2⟩:=nv h1.2.2.2.2.2.2.1 i t v ht hw;refine⟨c1,oi.2 ⟨⟨fun x hx=>?_,?_⟩,hr.2 z (aaq hz)⟩⟩
      ·have e1:=hr.1 z (aaq hz);have e2:=IY (hr.2 z (aaq hz)) x hx;simp only[zx,List.any_eq_true,not_exists,not_and,decide_eq_true_iff]at e1;have e3:=e1 x hx;have e4:=e2.2;simp only[Pk,xz,Bool.not_eq_true',beq_eq_false_iff_ne]at e4;have:=e4.2.2;omega
      ·rcases O1 with⟨u,hu,rfl⟩|rfl
       ·exact jG (oi.1 c2).1.2 (t1 i u v hu hw).2
       ·exact(oi.1 c2).1.2
     ·obtain⟨v,XE,e⟩:=vC hv w hw;exact(hvw v XE w e).1
     ·obtain⟨v,XE,e⟩:=vC hv w hw;exact(hvw v XE w e).2
end Go.Proofs.YtfepbikckfehlaaGreat
set_option maxHeartbeats 4000000
namespace Go.Proofs.YtfepbikckfehlaaGreat
open Go Go.Am
variable{pr:bW}(hp:cF pr)
set_option maxRecDepth 100000
theorem mV{s:bN}(ht:s.d.fA<=1048576):s.da.dep<=4000000:=by
 have e:=bN.WI s;have:=(My _).1 s.da (aah _);omega
theorem LL{h:aG}{s:bN}{v:af}{F:List Nat}(ht:s.d.fA<=1048576)(ho:cq h s.da v F):Am.snap h v=some s.enc:=by
 rw[<-bN.iY];exact cq.snap ho (by have:=mV ht;omega)
theorem Sf(hp:cF pr){s:bN}(hs:uv s){v:af}{F:List Nat}{h:aG}{L:List Chunk}{k n:Nat}(S:aj h (.rd k n:: .dL s.da v F::L))(hn:n<=80000000000){K:ef->Prop}
  (hK: ∀(s':bN) v' F' h',uv s'->aj h' (.rd k (n+2000):: .dL s'.da v' F'::L)->K (.ret v' h')):
  ∃r,cj (dZ pr) (call (dZ pr)) 51 [.ptr k 0 0,v] h=some r/\K r:=by
   have vq:s.d.fA<=1048576:=by have:=Cg hs;omega
   have hz: ∀x:bN×Int,uv x.1->x.1.d.fA<=1048576:=fun x hx=>by have:=Cg hx;omega
   have oG: ∀{h':aG}{m:Nat}{L':List Chunk},aj h' (.rd k m:: .dL s.da v F::L')->Am.snap h' v=some s.enc:=fun S'=>LL vq (S'.get 1 rfl);obtain⟨Ly,R0,RQ⟩:=Ea hs;have Sp:dz s=true->(∀(i:Nat) z v,s.aH[i]?=some z->s.bc[i]?=some v->dS z=true/\eB v z)/\s.aH.length<=1000/\ ∀z∈s.aH,dS z=true:=fun _=>⟨Ly,by omega,RQ⟩;have hwt:s.bc.length=s.aH.length:=by rw[hs.2.1,R0];rfl
   have Iu: ∀w∈s.bc,1<=w/\w<=6:=fun w hw=>by rw[hs.2.1]at hw;simp at hw;omega
   have hsv: ∀v∈s.aL,mT s.bc 6 v.hU (dY v.hU.ez [2,2]):=fun v hv=>by rw[hs.2.1];exact hs.2.2 v hv
   have acz:dz s=true-> ∀v∈s.aL,∃w,mT s.bc 6 v.hU w/\many 6 v.hU.ez<=10:=fun _ v hv=>⟨_,hsv v hv,(D8 hs v hv).1⟩
   have acA: ∀{p:aA},dz s=true->1<=dY p s.bc->mT s.bc 6 (iX p) (dY p s.bc):=fun{p} _ Cq=>by
    obtain⟨hf,e4⟩:=uI Cq;obtain⟨f1,f2,f3⟩:=Lv hf;have dN:=jK 6 p f2 (by omega) (by rw[<-e4];exact Cq);rw[<-e4]at dN;exact dN
   obtain⟨W,T,V,rfl,gN,_,_⟩:=jy (show cq h _ v F from S.get 1 rfl);rw[nN rfl];refine dJ (hp.out _ rfl) ?_;conv=>whnf
   intro k1 a1 eg er;replace S:=S.alloc eg er;conv=>whnf
   intro k2 a2 jS jb;replace S:=S.alloc jS jb;refine aC (S.row 1 rfl) ?_;conv=>whnf
   intro k3 a3 mF lI;replace S:=S.alloc mF lI;conv=>whnf
   refine⟨[W,T,V,i64 _,i64 _],(by kernel_rfl),rfl,gN,.inl ⟨_,S.row 0 rfl,rfl,?_⟩⟩;conv=>whnf
   intro h1 Sg;replace S:=S.w0 Sg;conv=>whnf
   replace S:=S.q4;replace S:=S.q4;refine dV hp _ S (by omega) fun x h2 hx S1=>?_;replace S:=S1;clear S1;conv=>whnf
   refine ae (fun g1=>?_) (fun g1=>?_)
   ·refine aC (S.row 4 rfl) ?_;conv=>whnf
    refine Sa hp S (by omega) fun p h5 jP S1=>?_;replace S:=S1;clear S1;have hd:=Jd hp s p vq (by unfold aA.small;omega) acA Sp (hz _ (Eb hs));have hi:=Eb (p:=p) hs;generalize uF s p=r9 at hd hi;obtain⟨au,pn,⟨tk,pK,⟨t1,t2,t3,t4⟩,⟨t5,t6,t7,t8⟩⟩,cells,pa,pb,aq,agg,col,ao⟩:=p;conv=>whnf
    refine⟨?_,?_⟩
    ·repeat
      ((conv=>whnf);first|trivial|refine⟨by first|((conv=>whnf);exact cm rfl (S.row 4 rfl) rfl rfl),?_⟩)
    conv=>whnf
    refine iG S hd rfl (bu (oG S) rfl) fun vs q1 F1 S1=>?_;obtain⟨v2,G2,rfl,S2⟩:=aj.y6 S1;clear S1 S;have S:=S2;obtain⟨W2,T2,V2,rfl,Gd,_,_⟩:=jy (show cq _ _ v2 G2 from S2.get 0 rfl);clear S2;conv=>whnf
    refine⟨[W2,T2,V2,i64 _,i64 _],(by kernel_rfl),rfl,Gd,.inl ⟨_,S.row 3 rfl,rfl,?_⟩⟩;conv=>whnf
    intro h8 pE;replace S:=S.w3 pE;refine aC (S.row 3 rfl) ?_;conv=>whnf
    refine⟨[W2,T2,V2,i64 _,i64 _],(by kernel_rfl),rfl,Gd,.inl ⟨_,S.row 4 rfl,rfl,?_⟩⟩;conv=>whnf
    intro h9 nu;replace S:=S.w4 nu;conv=>whnf
    have S2:=((((S.drop 5).drop 4).drop 3).drop 2).swap;dsimp only[List.eraseIdx]at S2;exact⟨_,eu rfl rfl (S.row 4 rfl) rfl,hK _ _ _ _ hi (aj.fm S2 (by omega))⟩
   conv=>whnf
   refine ae (fun g2=>?_) (fun g2=>?_)
   ·refine aC (S.row 4 rfl) ?_;refine aC (S.row 4 rfl) ?_;conv=>whnf
    refine dV hp _ S (by omega) fun dP h5 hat S1=>?_;replace S:=S1;clear S1;have hd:=Je hp s dP vq (hz _ (Ec hs));have hi:=Ec (dP:=dP) hs;generalize uG s dP=r9 at hd hi;conv=>whnf
    refine⟨?_,?_⟩
    ·repeat
      ((conv=>whnf);first|trivial|refine⟨by first|((conv=>whnf);exact cm rfl (S.row 4 rfl) rfl rfl),?_⟩)
    conv=>whnf
    refine iG S hd rfl (bu (oG S) rfl) fun vs q1 F1 S1=>?_;obtain⟨v2,G2,rfl,S2⟩:=aj.y6 S1;clear S1 S;have S:=S2;obtain⟨W2,T2,V2,rfl,Gd,_,_⟩:=jy (show cq _ _ v2 G2 from S2.get 0 rfl);clear S2;conv=>whnf
    refine⟨[W2,T2,V2,i64 _,i64 _],(by kernel_rfl),rfl,Gd,.inl ⟨_,S.row 3 rfl,rfl,?_⟩⟩;conv=>whnf
    intro h8 pE;replace S:=S.w3 pE;refine aC (S.row 3 rfl) ?_;conv=>whnf
    refine⟨[W2,T2,V2,i64 _,i64 _],(by kernel_rfl),rfl,Gd,.inl ⟨_,S.row 4 rfl,rfl,?_⟩⟩;conv=>whnf
    intro h9 nu;replace S:=S.w4 nu;conv=>whnf
    have S2:=((((S.drop 5).drop 4).drop 3).drop 2).swap;dsimp only[List.eraseIdx]at S2;exact⟨_,eu rfl rfl (S.row 4 rfl) rfl,hK _ _ _ _ hi (aj.fm S2 (by omega))⟩
   conv=>whnf
   refine ae (fun g3=>?_) (fun g3=>?_)
   ·refine aC (S.row 4 rfl) ?_;conv=>whnf
    intro kb ab CL CM;replace S:=(S.alloc CL CM).front 1 rfl;dsimp only[List.eraseIdx]at S;conv=>whnf
    refine dV hp _ S (by omega) fun view h5 hat S1=>?_;replace S:=S1;clear S1;conv=>whnf
    refine⟨?_,?_⟩
    ·repeat
      ((conv=>whnf);first|trivial|refine⟨by first|((conv=>whnf);exact⟨_,rfl,S.row 1 rfl⟩)|((conv=>whnf);exact cm rfl (S.row 5 rfl) rfl rfl),?_⟩)
    conv=>whnf
    refine nZ hp [3,10,1000] (by simp) (by simp) S (by omega) fun fuel h6 hfu S1=>?_;replace S:=S1;clear S1;have hd:=FU hp s view fuel vq acz;have hi:=LJ (view:=view) (fuel:=fuel) hs;generalize r5 s view fuel=r9 at hd hi;conv=>whnf
    refine⟨?_,?_⟩
    ·repeat
      ((conv=>whnf);first|trivial|refine⟨by first|((conv=>whnf);exact cm rfl (S.row 4 rfl) rfl rfl),?_⟩)
    conv=>whnf
    refine iG S hd rfl (bu (oG S) rfl) fun vs q1 F1 S1=>?_;obtain⟨v2,G2,rfl,S2⟩:=aj.y6 S1;clear S1 S;have S:=S2;obtain⟨W2,T2,V2,rfl,Gd,_,_⟩:=jy (show cq _ _ v2 G2 from S2.get 0 rfl);clear S2;conv=>whnf
    refine⟨[W2,T2,V2,i64 _,i64 _],(by kernel_rfl),rfl,Gd,.inl ⟨_,S.row 3 rfl,rfl,?_⟩⟩;conv=>whnf
    intro h8 pE;replace S:=S.w3 pE;refine aC (S.row 3 rfl) ?_;conv=>whnf
    refine⟨[W2,T2,V2,i64 _,i64 _],(by kernel_rfl),rfl,Gd,.inl ⟨_,S.row 4 rfl,rfl,?_⟩⟩;conv=>whnf
    intro h9 nu;replace S:=S.w4 nu;conv=>whnf
    have S2:=((((S.drop 5).drop 4).drop 3).drop 2).swap;dsimp only[List.eraseIdx]at S2;exact⟨_,eu rfl rfl (S.row 4 rfl) rfl,hK _ _ _ _ hi (aj.fm S2 (by omega))⟩
   refine aC (S.row 4 rfl) ?_;refine aC (S.row 4 rfl) ?_;conv=>whnf
   refine O5 hp hwt (by omega) Iu RQ S (by omega) fun aK h5 Mn xD S1=>?_;replace S:=S1;clear S1;have hd:=Jg hp s aK vq (by omega) xD (fun _ v hv=>⟨_,hsv v hv⟩) (fun _=>RQ) (hz _ (Ef hs));have hi:=Ef (aK:=aK) hs;generalize uH s aK=r9 at hd hi;conv=>whnf
   refine⟨?_,?_⟩
   ·repeat
     ((conv=>whnf);first|trivial|refine⟨by first|((conv=>whnf);exact cm rfl (S.row 4 rfl) rfl rfl),?_⟩)
   conv=>whnf
   refine iG S hd rfl (bu (oG S) rfl) fun vs q1 F1 S1=>?_;obtain⟨v2,G2,rfl,S2⟩:=aj.y6 S1;clear S1 S;have S:=S2;obtain⟨W2,T2,V2,rfl,Gd,_,_⟩:=jy (show cq _ _ v2 G2 from S2.get 0 rfl);clear S2;conv=>whnf
   refine⟨[W2,T2,V2,i64 _,i64 _],(by kernel_rfl),rfl,Gd,.inl ⟨_,S.row 3 rfl,rfl,?_⟩⟩;conv=>whnf
   intro h8 pE;replace S:=S.w3 pE;refine aC (S.row 3 rfl) ?_;conv=>whnf
   refine⟨[W2,T2,V2,i64 _,i64 _],(by kernel_rfl),rfl,Gd,.inl ⟨_,S.row 4 rfl,rfl,?_⟩⟩;conv=>whnf
   intro h9 nu;replace S:=S.w4 nu;conv=>whnf
   have S2:=((((S.drop 5).drop 4).drop 3).drop 2).swap;dsimp only[List.eraseIdx]at S2;exact⟨_,eu rfl rfl (S.row 4 rfl) rfl,hK _ _ _ _ hi (aj.fm S2 (by omega))⟩
end Go.Proofs.YtfepbikckfehlaaGreat

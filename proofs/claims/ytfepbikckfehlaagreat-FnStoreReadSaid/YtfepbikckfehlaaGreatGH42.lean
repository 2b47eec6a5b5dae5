/- Draws: something happens to a store. -/
import Derived.Test.YtfepbikckfehlaaGreatGH41
import Derived.Test.YtfepbikckfehlaaGreatGH40
set_option linter.unusedVariables false
set_option linter.unusedSimpArgs false
set_option maxHeartbeats 4000000
namespace Go.Am
open Go
def Chunk.two(c d:Chunk):Chunk:=⟨c.F++d.F,fun h=>c.P h/\d.P h,fun h h' hp hf=>⟨c.loc h h' hp.1 fun id cq=>hf id (by simp[cq]),d.loc h h' hp.2 fun id cq=>hf id (by simp[cq])⟩,fun h hp id cq=>by
 rcases bu.1 cq with h1|h1
 ·exact c.lt h hp.1 id h1
 ·exact d.lt h hp.2 id h1⟩
end Go.Am
namespace Go.Proofs.YtfepbikckfehlaaGreat
open Go Go.Am
variable{pr:bL}(hp:bV pr)
set_option maxRecDepth 100000
theorem ah.pair{h:aC}{L:List Chunk}{c d:Chunk}(S:ah h (c::d::L)):ah h (.two c d::L):=ah.Tj [c,d] S ⟨S.get 0 rfl,S.get 1 rfl⟩ (by simp[Chunk.two])
theorem ah.Ql{h:aC}{L:List Chunk}{c d:Chunk}(S:ah h (.two c d::L)):ah h (c::d::L):=by
 have h0:c.P h/\d.P h:=S.get 0 rfl;exact S.cut rfl h0.1 h0.2
theorem Si{f:FuncId}{args:List af}{h:aC}{L:List Chunk}{D:Chunk}{k n:Nat}{m:Nat}{P:af->Prop}{K:dz->Prop}(hM:fF f=Am.Mode.R)(SZ:pr f=none)(S:ah h (.rd k n::D::L))
  (hw: ∀L,ah h (.rd k n::D::L)->wv (du pr) f args h (fun r=>∃v h1 x CR,r= .ret v h1/\ah h1 (CR:: .rd k m::D::L)/\(∀h',CR.P h'->Am.snap h' v=some x)/\P x))
  (hK: ∀x h',P x->ah h' (.rd k m::D::L)->K (.ret x h')): ∃r,bN (du pr) (call (du pr)) f args h=some r/\K r:=by
   obtain⟨x,C1,h2,hc,S2,_,hx,hC⟩:=Tg (Q:=fun x C=>P x/\C= .two (.rd k m) D) hM (ah.pair S) fun L S=>by
    obtain⟨r,hr,v,h1,x,CR,rfl,S1,hs,hx⟩:=cS SZ (hw L (ah.Ql S));exact⟨v,h1,x,CR,.two (.rd k m) D,hr,(ah.pair (S1.front 1 rfl|>.front 2 rfl|>.swap)).swap,hs,rfl,hx,rfl⟩
   subst hC;exact⟨_,hc,hK _ _ hx (ah.Ql S2)⟩
theorem ah.XD{h:aC}{L:List Chunk}{d:ba}{v:af}{F:List Nat}(S:ah h (.cU d v F::L)):ah h (.old h F::L):=
 S.is (c':=.old h F) (fun id cq=>⟨S.lt 0 rfl id cq,rfl⟩) rfl
theorem ah.XE{h h':aC}{L:List Chunk}{d:ba}{v:af}{F:List Nat}(ho:bP h d v F)(S:ah h' (.old h F::L)):ah h' (.cU d v F::L):=
 S.is (c':=.cU d v F) (ho.frame fun id cq=>((show∀id∈F,id<h'.length/\h'[id]?=h[id]? from S.get 0 rfl) id cq).2) rfl
theorem bZ.Qm{h:aC}: ∀{ds:List ba}{vs:List af}{F:List Nat},bZ h ds vs F-> ∀(i:Nat) d,ds[i]?=some d-> ∃v G,vs[i]?=some v/\bP h d v G/\ ∀id∈G,id∈F
 | [],vs,F,hp,i,d,hd=>by simp at hd
 |p::ps,vs,F,hp,i,d,hd=>by
  simp only[bZ]at hp;obtain⟨v,eo,F1,F2,rfl,rfl,h1,h2⟩:=hp
  cases i with
  |zero=>simp at hd;subst hd;exact⟨v,F1,rfl,h1,fun id cq=>by simp[cq]⟩
  |succ i=>
   simp at hd;obtain⟨v2,G,e1,e2,e3⟩:=bZ.Qm h2 i d hd;exact⟨v2,G,by simpa using e1,e2,fun id cq=>by simp[e3 id cq]⟩
theorem iy{h:aC}{s:bJ}{v:af}{F:List Nat}(ho:bP h s.da v F): ∃W T V,v= .agg [W,T,V,i64 s.now,i64 s.keep]/\[W,T,V,i64 s.now,i64 s.keep].all af.bE=true/\
  ((W= .nil/\s.bc=[])∨ ∃Ee,W= .own Ee 0 s.bc.length/\Ee∈F/\h[Ee]?=some (.arr 1 (s.bc.map i64)))/\
  ((T= .nil/\s.aF=[])∨ ∃M4 vT,T= .own M4 0 s.aF.length/\M4∈F/\h[M4]?=some (.arr 1 vT)/\ ∀(i:Nat) z,s.aF[i]?=some z-> ∃O,vT[i]?=some O/\O.bE=true/\((O= .nil/\z=[])∨
    ∃QI vz,O= .own QI 0 z.length/\QI∈F/\h[QI]?=some (.arr 2 vz)/\ ∀(j:Nat) x,z[j]?=some x-> ∃P G,vz[j]?=some (.agg [P,i64 x.w])/\bP h (gq.d x.row) P G/\ ∀id∈G,id∈F)):=by
     obtain⟨bc,aF,aK,now,keep⟩:=s;obtain⟨vv,rfl,hu⟩:=gx.1 ho;obtain⟨W,u1,H1,G1,rfl,rfl,g1,h2⟩:=rS.1 hu;obtain⟨T,u2,H2,G2,rfl,rfl,g2,h3⟩:=rS.1 h2;obtain⟨V,u3,H3,G3,rfl,rfl,g3,h4⟩:=rS.1 h3;obtain⟨w4,rfl,h5⟩:=ni.1 h4;obtain⟨w5,rfl,h6⟩:=ni.1 h5;obtain⟨rfl,rfl⟩:=eL.1 h6;refine⟨W,T,V,rfl,bC g1.sZ.2 (bC g2.sZ.2 (bC g3.sZ.2 rfl)),?_,?_⟩
     ·simp only[bP]at g1;rcases g1 with⟨e1,e2,rfl⟩|⟨id,vs,Fs,rfl,e1,e2,rfl⟩
      ·exact .inl ⟨rfl,by simpa using e1⟩
      ·refine .inr ⟨id,by simp,by simp,?_⟩
       have key: ∀(xs:List Int) vs F,bZ h (xs.map ba.i) vs F->vs=xs.map i64:=by
        intro xs
        induction xs with
        |nil=>intro vs F ho;simp only[List.map_nil,bZ]at ho;rw[ho.1];rfl
        |cons x xs ih=>
         intro vs F ho;simp only[aM,bZ]at ho;obtain⟨v,eo,F1,F2,rfl,rfl,h1,h2⟩:=ho;simp only[bP]at h1;rw[ih _ _ h2,h1.1];rfl
       rw[e1,key _ _ _ e2]
     ·simp only[bP]at g2;rcases g2 with⟨e1,e2,rfl⟩|⟨id,vT,Fs,rfl,e1,e2,rfl⟩
      ·exact .inl ⟨rfl,by simpa using e1⟩
      ·refine .inr ⟨id,vT,by simp,by simp,e1,fun i z hz=>?_⟩;obtain⟨O,G,hO,oO,hG⟩:=bZ.Qm e2 i (aE.da z) (by rw[List.getElem?_map,hz];rfl);refine⟨O,hO,(show bP h (.a 2 (z.map Item.d)) O G from oO).sZ.2,?_⟩;simp only[aE.da,bP]at oO;rcases oO with⟨c1,c2,rfl⟩|⟨QI,vz,Gs,rfl,c1,c2,rfl⟩
       ·exact .inl ⟨rfl,by simpa using c1⟩
       ·refine .inr ⟨QI,vz,by simp,by have:=hG QI (by simp);simp[this],c1,fun j x hx=>?_⟩;obtain⟨u,G5,hu5,ou,hG5⟩:=bZ.Qm c2 j x.d (by rw[List.getElem?_map,hx];rfl);obtain⟨P,rfl,oP⟩:=Item.open ou;exact⟨P,G5,hu5,oP,fun yu aaC=>by have:=hG yu (by simp[hG5 yu aaC]);simp[this]⟩
def Hy(n:Nat)(z:List Item):Prop:=z.length<=n/\ ∀x∈z,x.row.length<=10
theorem vB{n:Nat}{z:List Item}{r:List Int}{w:Int}(hz:Hy n z)(hr:r.length<=10):Hy (n+1) (fT z r w):=by
 refine⟨bw (uQ _ _ _) (by have:=hz.1;omega),fun x hx=>?_⟩;rcases pz x hx with e|⟨y,hy,e⟩
 ·rw[e];exact hr
 ·rw[e];exact hz.2 y hy
theorem nL{n:Nat}{z:List Item}(hz:Hy n z)(hn:n<=100):gi z:=⟨by have:=hz.1;simp[cM];omega,fun x hx=>by have:=hz.2 x hx;simp[cM];omega⟩
theorem M8(hp:bV pr){s:bJ}(hw:s.bc.length=s.aF.length)(hl:s.aF.length<=3)(Gn: ∀w∈s.bc,1<=w/\w<=6)(htr: ∀z∈s.aF,c7 z=true){v:af}{F:List Nat}{h:aC}{L:List Chunk}{k n:Nat}(S:ah h (.rd k n:: .cU s.da v F::L))(hn:n<=90000000000){K:dz->Prop}
  (hK: ∀(aH:List (List Item)) h',aH.length<=3->(∀z∈aH,gi z)->ah h' (.rd k (n+1000):: .cU s.da v F::L)->K (.ret (bM.enc aH) h')):
  ∃r,bN (du pr) (call (du pr)) 86 [.ptr k 0 0,v] h=some r/\K r:=by
   have ho:bP h s.da v F:=S.get 1 rfl
   refine Si (D:=.old h F) (m:=n+1000) (P:=fun x=>∃aH:List (List Item),x=bM.enc aH/\aH.length<=3/\ ∀z∈aH,gi z) rfl (hp.out _ rfl) (ah.XD S.swap).swap (fun L Sw=>?_) fun x h' hx S1=>by
    obtain⟨aH,rfl,h1,h2⟩:=hx;exact hK aH h' h1 h2 (ah.XE ho S1.swap).swap
   clear hK K;obtain⟨W,T,V,rfl,fJ,hW,hT⟩:=iy ho;conv=>whnf
   obtain⟨bc,aF,aK,now,keep⟩:=s;dsimp only at hw hl Gn htr fJ hW hT;clear S;have S:=Sw;intro k1 a1 dw dC;replace S:=(S.alloc dw dC).front 2 rfl;dsimp only[List.eraseIdx]at S;replace S:=S.q2;have S0:=ah.j7 1 S;clear S;have S:=S0.swap;clear S0;conv=>whnf
   rcases hT with⟨rfl,rfl⟩|⟨M4,vT,rfl,hTF,hTh,hTt⟩
   ·skip;refine dh (fun m tm hp=>∃(j:Nat)(O:af)(FO:List Nat)(outs:List (List Item)),j+m=0/\tm 5=O/\tm 6=i64 (j:Nat)/\ah hp (.rd k (n+100*j):: .iA 1 (outs.map aE.d) O FO:: .old h F:: .row k1 (.box (.agg [W,.nil,V,i64 now,i64 keep]))::L)/\(outs.length=j)/\(∀z∈outs,Hy 3 z)) (fun mi Te hq bz hI=>?_) (0) ⟨0,.nil,[],[],by simp,rfl,rfl,S,(rfl),(by simp)⟩;obtain⟨i,O,FO,outs,hi,e5,e6,S2,MX,DE⟩:=hI;have k0:=bz 0 (by kernel_rfl);conv at k0=>rhs;whnf
    have k3:=bz 3 (by kernel_rfl);conv at k3=>rhs;whnf
    refine⟨[(0,_),(3,_),(5,_),(6,_)],⟨k0,k3,e5,e6,trivial⟩,?_⟩;clear bz k0 k3 e5 e6;replace S:=S2;clear S2;conv=>whnf
    have vQ:i<4611686018427387904:=by omega
    refine aI (S.row 3 rfl) ?_;conv=>whnf
    conv=>whnf
    exact⟨_,rfl,_,_,_,_,rfl,(ah.eh (ah.dv (S.drop 3).swap).swap (by omega)).swap,fun h' gI=>(bP.snap (d:=bM.d outs) gI (by have:=gM outs;omega)).trans (by rw[bM.eD]),outs,rfl,by simp only[List.length_nil]at*;omega,fun z hz=>nL (DE z hz) (by omega)⟩
   ·rcases hW with⟨rfl,hW0⟩|⟨Ee,rfl,hWF,hWh⟩
    ·have ht0:aF=[]:=bk.1 (by rw[<-hw,hW0];rfl);subst ht0;refine dh (fun m tm hp=>∃(j:Nat)(O:af)(FO:List Nat)(outs:List (List Item)),j+m=0/\tm 5=O/\tm 6=i64 (j:Nat)/\ah hp (.rd k (n+100*j):: .iA 1 (outs.map aE.d) O FO:: .old h F:: .row k1 (.box (.agg [.nil,.own M4 0 0,V,i64 now,i64 keep]))::L)/\(outs.length=j)/\(∀z∈outs,Hy 3 z)) (fun mi Te hq bz hI=>?_) (0) ⟨0,.nil,[],[],by simp,rfl,rfl,S,(rfl),(by simp)⟩;obtain⟨i,O,FO,outs,hi,e5,e6,S2,MX,DE⟩:=hI;have k0:=bz 0 (by kernel_rfl);conv at k0=>rhs;whnf
     have k3:=bz 3 (by kernel_rfl);conv at k3=>rhs;whnf
     refine⟨[(0,_),(3,_),(5,_),(6,_)],⟨k0,k3,e5,e6,trivial⟩,?_⟩;clear bz k0 k3 e5 e6;replace S:=S2;clear S2;conv=>whnf
     have vQ:i<4611686018427387904:=by omega
     refine aI (S.row 3 rfl) ?_;conv=>whnf
     conv=>whnf
     exact⟨_,rfl,_,_,_,_,rfl,(ah.eh (ah.dv (S.drop 3).swap).swap (by omega)).swap,fun h' gI=>(bP.snap (d:=bM.d outs) gI (by have:=gM outs;omega)).trans (by rw[bM.eD]),outs,rfl,by simp only[List.length_nil]at*;omega,fun z hz=>nL (DE z hz) (by omega)⟩
    ·skip;refine dh (fun m tm hp=>∃(j:Nat)(O:af)(FO:List Nat)(outs:List (List Item)),j+m=aF.length/\tm 5=O/\tm 6=i64 (j:Nat)/\ah hp (.rd k (n+100*j):: .iA 1 (outs.map aE.d) O FO:: .old h F:: .row k1 (.box (.agg [.own Ee 0 bc.length,.own M4 0 aF.length,V,i64 now,i64 keep]))::L)/\(outs.length=j)/\(∀z∈outs,Hy 3 z)) (fun mi Te hq bz hI=>?_) (aF.length) ⟨0,.nil,[],[],by simp,rfl,rfl,S,(rfl),(by simp)⟩;obtain⟨i,O,FO,outs,hi,e5,e6,S2,MX,DE⟩:=hI;have k0:=bz 0 (by kernel_rfl);conv at k0=>rhs;whnf
     have k3:=bz 3 (by kernel_rfl);conv at k3=>rhs;whnf
     refine⟨[(0,_),(3,_),(5,_),(6,_)],⟨k0,k3,e5,e6,trivial⟩,?_⟩;clear bz k0 k3 e5 e6;replace S:=S2;clear S2;conv=>whnf
     have vQ:i<4611686018427387904:=by omega
     refine aI (S.row 3 rfl) ?_;conv=>whnf
     refine ae (fun g1=>?_) (fun g1=>?_)
     ·have mg:i<aF.length:=by simpa using g1
      obtain⟨O2,hO,cO,hOz⟩:=hTt i aF[i] (au mg);have hO':vT[0+((i:Nat):Int).toNat]?=some O2:=by rw[bg,aq];exact hO
      have Ci:=Gn (bc[i]'(by omega)) (ay (by omega));have Yn:(bc.map i64)[0+((i:Nat):Int).toNat]?=some (i64 (bc[i]'(by omega))):=by rw[bg,aq,List.getElem?_map,au (by omega)];rfl
      have sI:=htr _ (ay mg);generalize bc[i]'(by omega)=wi at Ci Yn;generalize aF[i]=zt at hOz sI;have Kk:=(cE sI);conv=>whnf
      refine di hp _ S (by omega) fun c h3 hc S1=>?_;clear S;have S:=(ah.j7 2 S1).swap;clear S1;have KP:0<=c/\c<=3:=by unfold QJ at hc;omega
      conv=>whnf
      refine dh (fun m tm hp=>∃(j:Nat)(D:af)(FD:List Nat)(zd:List Item)(e:Int),j+m=c.toNat/\tm 7=D/\tm 8=i64 e/\ah hp (.rd k (n+100*i+1+12*j):: .iA 2 (zd.map Item.d) D FD:: .iA 1 (outs.map aE.d) O FO:: .old h F:: .row k1 (.box (.agg [.own Ee 0 bc.length,.own M4 0 aF.length,V,i64 now,i64 keep]))::L)/\(Hy j zd)/\(e=c-(j:Int))) (fun m tm hq bz hI=>?_) (c.toNat) ⟨0,.nil,[],[],c,by simp,rfl,rfl,S,(⟨by simp,by simp⟩),(by simp)⟩;obtain⟨j,D,FD,zd,e,hj,e7,e8,S2,hz,he⟩:=hI;have k0:=bz 0 (by kernel_rfl);conv at k0=>rhs;whnf
      have k3:=bz 3 (by kernel_rfl);conv at k3=>rhs;whnf
      have k5:=bz 5 (by kernel_rfl);conv at k5=>rhs;whnf
      have k6:=bz 6 (by kernel_rfl);conv at k6=>rhs;whnf
      refine⟨[(0,_),(3,_),(5,_),(6,_),(7,_),(8,_)],⟨k0,k3,k5,k6,e7,e8,trivial⟩,?_⟩;clear bz k0 k3 k5 k6 e7 e8;replace S:=S2;clear S2;conv=>whnf
      have hold: ∀id∈F,id<hq.length/\hq[id]?=h[id]?:=S.get 3 rfl;have hTr:=((hold M4 hTF).2).trans hTh;refine ae (fun g2=>?_) (fun g2=>?_)
      ·have hj:(j:Int)<c:=by simp at g2;omega
       conv=>whnf
       refine aI (S.row 4 rfl) ?_;conv=>whnf
       refine⟨_,hTr,⟨by omega,by omega⟩,?_⟩;conv=>whnf
       refine .inr ⟨_,_,_,hTr,hO',?_⟩;rcases hOz with⟨rfl,rfl⟩|⟨QI,vz,rfl,hzF,hzh,M5⟩
       ·skip;conv=>whnf
        refine aI (S.row 4 rfl) ?_;conv=>whnf
        have AM:=S.get 3 rfl;have Ty:=(AM Ee hWF).2.trans hWh;refine⟨_,Ty,⟨by omega,by omega⟩,?_⟩;conv=>whnf
        refine .inr ⟨_,_,_,Ty,Yn,?_⟩;conv=>whnf
        refine sD hp _ (by omega) S (by omega) fun xs rv h5 Bc xm S1=>?_;clear S;conv=>whnf
        intro kb ab Sj Sk;replace S1:=S1.alloc Sj Sk;conv=>whnf
        replace S1:=S1.swap;refine kQ hp [1,1,1,2,1,1,-1] (by simp) (by simp) S1 (by omega) fun w h6 A4 S2=>?_;clear S1;have S:=S2.front 2 rfl;dsimp only[List.eraseIdx]at S;clear S2;conv=>whnf
        refine kG hp zd xs w _ (by have:=hz.1;simp[cM];omega) (nL hz (by omega)).2 (by simp[cM];omega) S (fun h' S'=>gq.snap ((ah.jc (S'.front 1 rfl)).get 0 rfl)) fun v' h7 F' S1=>?_;have S2:=(S1.drop 2).swap;dsimp only[List.eraseIdx]at S2;clear S1;clear S;have S:=S2;clear S2;conv=>whnf
        exact⟨m-1,by omega,j+1,_,_,_,_,by omega,rfl,rfl,ah.eh S (by omega),vB hz (by omega),by rw[aY];omega⟩
       ·conv=>whnf
        refine ae (fun gl=>?_) (fun gl=>?_)
        ·conv=>whnf
         refine di hp _ S (by omega) fun y h4 hy S1=>?_;replace S:=S1;clear S1;conv=>whnf
         refine ae (fun gp=>?_) (fun gp=>?_)
         ·conv=>whnf
          refine di hp _ S (by omega) fun x2 h5 xm S1=>?_;replace S:=S1;clear S1;have hx3:0<=x2/\x2<zt.length:=by unfold QJ at xm;simp at gl;omega
          have AM:=S.get 3 rfl;have XF:=(AM QI hzF).2.trans hzh;obtain⟨P,G,Nz,oP,hGF⟩:=M5 x2.toNat (zt[x2.toNat]'(by omega)) (au (by omega));have BR:=Kk.2 (zt[x2.toNat]'(by omega)) (ay _);generalize zt[x2.toNat]'(by omega)=xr at Nz oP BR;have aaF:vz[0+x2.toNat]?=some (.agg [P,i64 xr.w]):=by rw[bg];exact Nz
          conv=>whnf
          refine⟨_,XF,⟨hx3.1,hx3.2⟩,?_⟩;conv=>whnf
          refine .inr ⟨_,_,_,XF,aaF,?_⟩;refine eV (v:=P) (by rfl) ?_;conv=>whnf
          replace S:=S.q1;refine kG hp zd xr.row (-1) P (by have:=hz.1;simp[cM];omega) (nL hz (by omega)).2 (by simp[cM];omega) S (fun h' S'=>gq.snap (oP.frame fun id cq=>((S'.get 2 rfl) id (hGF id cq)).2)) fun v' h7 F' S1=>?_;have S2:=S1.swap;clear S1;clear S;have S:=S2;clear S2;conv=>whnf
          exact⟨m-1,by omega,j+1,_,_,_,_,by omega,rfl,rfl,ah.eh S (by omega),vB hz (by omega),by rw[aY];omega⟩
         ·skip;conv=>whnf
          refine aI (S.row 4 rfl) ?_;conv=>whnf
          have AM:=S.get 3 rfl;have Ty:=(AM Ee hWF).2.trans hWh;refine⟨_,Ty,⟨by omega,by omega⟩,?_⟩;conv=>whnf
          refine .inr ⟨_,_,_,Ty,Yn,?_⟩;conv=>whnf
          refine sD hp _ (by omega) S (by omega) fun xs rv h5 Bc xm S1=>?_;clear S;conv=>whnf
          intro kb ab Sj Sk;replace S1:=S1.alloc Sj Sk;conv=>whnf
          replace S1:=S1.swap;refine kQ hp [1,1,1,2,1,1,-1] (by simp) (by simp) S1 (by omega) fun w h6 A4 S2=>?_;clear S1;have S:=S2.front 2 rfl;dsimp only[List.eraseIdx]at S;clear S2;conv=>whnf
          refine kG hp zd xs w _ (by have:=hz.1;simp[cM];omega) (nL hz (by omega)).2 (by simp[cM];omega) S (fun h' S'=>gq.snap ((ah.jc (S'.front 1 rfl)).get 0 rfl)) fun v' h7 F' S1=>?_;have S2:=(S1.drop 2).swap;dsimp only[List.eraseIdx]at S2;clear S1;clear S;have S:=S2;clear S2;conv=>whnf
          exact⟨m-1,by omega,j+1,_,_,_,_,by omega,rfl,rfl,ah.eh S (by omega),vB hz (by omega),by rw[aY];omega⟩
        ·skip;conv=>whnf
         refine aI (S.row 4 rfl) ?_;conv=>whnf
         have AM:=S.get 3 rfl;have Ty:=(AM Ee hWF).2.trans hWh;refine⟨_,Ty,⟨by omega,by omega⟩,?_⟩;conv=>whnf
         refine .inr ⟨_,_,_,Ty,Yn,?_⟩;conv=>whnf
         refine sD hp _ (by omega) S (by omega) fun xs rv h5 Bc xm S1=>?_;clear S;conv=>whnf
         intro kb ab Sj Sk;replace S1:=S1.alloc Sj Sk;conv=>whnf
         replace S1:=S1.swap;refine kQ hp [1,1,1,2,1,1,-1] (by simp) (by simp) S1 (by omega) fun w h6 A4 S2=>?_;clear S1;have S:=S2.front 2 rfl;dsimp only[List.eraseIdx]at S;clear S2;conv=>whnf
         refine kG hp zd xs w _ (by have:=hz.1;simp[cM];omega) (nL hz (by omega)).2 (by simp[cM];omega) S (fun h' S'=>gq.snap ((ah.jc (S'.front 1 rfl)).get 0 rfl)) fun v' h7 F' S1=>?_;have S2:=(S1.drop 2).swap;dsimp only[List.eraseIdx]at S2;clear S1;clear S;have S:=S2;clear S2;conv=>whnf
         exact⟨m-1,by omega,j+1,_,_,_,_,by omega,rfl,rfl,ah.eh S (by omega),vB hz (by omega),by rw[aY];omega⟩
      ·have cD:=(show qS 2 _ _ D FD from S.get 1 rfl).1.cell;conv=>whnf
       refine dE cD.1 ?_;conv=>whnf
       replace S:=ah.dv (S.front 1 rfl);replace S:=S.q2;intro nM nN de dg;replace S:=S.alloc de dg;conv=>whnf
       refine⟨trivial,?_⟩;conv=>whnf
       refine⟨[_],bG (S.row 0 rfl),cQ cD.1 cD.2,?_⟩;replace S:=S.drop 0;dsimp only[List.eraseIdx]at S;refine jM (sz:=1) (d:=aE.d zd) S (by simp[br];omega) fun k5 h5 F5 S1=>?_;clear S;have S:=S1.swap;clear S1;conv=>whnf
       have hz3:Hy 3 zd:=⟨by have:=hz.1;omega,hz.2⟩
       exact⟨mi-1,by omega,i+1,_,_,outs++[zd],by omega,rfl,aQ i vQ,ah.eh (by rw[bd];exact S) (by omega),by simp[MX],fun y hy=>by
        rcases bu.1 hy with hy|hy
        ·exact DE y hy
        ·simp at hy;subst hy;exact hz3⟩
     ·have bq:i=aF.length:=by simp at g1;omega
      conv=>whnf
      exact⟨_,rfl,_,_,_,_,rfl,(ah.eh (ah.dv (S.drop 3).swap).swap (by omega)).swap,fun h' gI=>(bP.snap (d:=bM.d outs) gI (by have:=gM outs;omega)).trans (by rw[bM.eD]),outs,rfl,by omega,fun z hz=>nL (DE z hz) (by omega)⟩
end Go.Proofs.YtfepbikckfehlaaGreat
set_option maxHeartbeats 4000000
namespace Go.Proofs.YtfepbikckfehlaaGreat
open Go Go.Am
set_option maxRecDepth 100000
theorem JS{n w:Int}(h:col n w=true):col n 6=true:=by
 simp only[col,aj,decide_eq_true_iff]at h⊢;omega
theorem DZ{c:Cell}{w:Int}(h:d9 c w=true):d9 c 6=true:=by
 unfold d9 at h⊢;split
 ·rename_i g;rw[if_pos g]at h;simp only[aj]at h⊢;exact⟨JS h.1,h.2⟩
 ·rename_i g;rw[if_neg g]at h;split
  ·rename_i g2
   rwa [if_pos g2]at h
  ·rename_i g2;rw[if_neg g2]at h;split
   ·rename_i g3;rw[if_pos g3]at h;simp only[aj]at h⊢;exact⟨JS h.1,JS h.2.1,h.2.2⟩
   ·rename_i g3;rw[if_neg g3]at h;cases h
theorem Ll{w:Int}: ∀{xs pre:List Int},jJ pre w xs=true->jJ pre 6 xs=true
 | [],_,_=>rfl
 |x::xs,pre,h=>by
  simp only[jJ,aj]at h⊢;exact⟨JS h.1,h.2.1,Ll h.2.2⟩
theorem Sl{x:Int}(h:1<=gC x):1<=x:=(rZ h).2.1
theorem Qn{ws:List Int}(vG:ws.length<=3){aw n:Int}{aA:Test}{cells:List Cell}{a b:Int}{ao:List Int}{agg c:Int}{al:List ax}{l:List Int}(h1:aw=1->l=ws)(h:1<=gC (bI (.mk aw n aA cells a b ao agg c al) l)):own (.mk aw n aA cells a b ao agg c al)=true:=by
 have h:=Sl h;unfold own;unfold bI at h;dsimp only at h⊢
 by_cases k1:aw=1
 ·rw[if_pos k1]at h⊢;rw[h1 k1]at h;split at h
  ·rename_i g;simp only[aj,decide_eq_true_iff]at g⊢;omega
  ·omega
 rw[if_neg k1]at h⊢
 by_cases k2:aw=2
 ·rw[if_pos k2]at h⊢;split at h
  ·rename_i g;simp only[jG,aj]at g⊢;exact⟨g.1,DZ g.2.1,DZ g.2.2⟩
  ·omega
 rw[if_neg k2]at h⊢
 by_cases k3:aw=3
 ·rw[if_pos k3]at h⊢;split at h
  ·rename_i g;simp only[aj,aG]at g;simp only[ja,aj,aG];exact⟨fun x hx=>DZ (g.2.2 x hx),g.1,g.2.1⟩
  ·omega
 rw[if_neg k3]at h⊢
 by_cases k4:aw=4
 ·rw[if_pos k4]at h⊢;split at h
  ·rename_i g;simp only[aj]at g⊢;exact⟨JS g.1,JS g.2⟩
  ·omega
 rw[if_neg k4]at h⊢
 by_cases k7:aw=7
 ·rw[if_neg (by omega),if_neg (by omega)]at h;rw[if_pos k7];split at h
  ·rename_i g;simp only[dY,aj]at g⊢;exact⟨⟨Ll g.2.2.1.1,g.2.2.1.2⟩,g.1,g.2.1,JS g.2.2.2⟩
  ·omega
 rw[if_neg k7]
theorem AN{ws:List Int}{d:Nat}: ∀{ps:List ax}{l:List Int},mc ws d ps=some l-> ∀q∈ps,1<=cy ws d q
 | [],_,_,q,hq=>by simp at hq
 |p::ps,l,h,q,hq=>by
  rw[mc]at h;split at h
  ·cases h
  ·rename_i g
   cases h2:mc ws d ps with
   |none=>rw[h2]at h;cases h
   |some l2=>
    rcases aW.1 hq with rfl|hq
    ·omega
    ·exact AN h2 q hq
theorem AO{ws:List Int}(vG:ws.length<=3): ∀(d:Nat)(p:ax),1<=cy ws d p->form d p=true
 |0,p,h=>by simp[cy]at h
 |d+1,.mk aw n aA cells a b ao agg c al,h=>by
  rw[cy]at h;split at h
  ·rename_i sf;simp only[shaped,ax.aw,ax.al,aj]at sf;simp only[form,ax.aw,ax.al,aj,aG];refine⟨sf.1,sf.2,?_⟩;split at h
   ·rename_i k1;refine⟨Qn vG (fun _=>rfl) h,fun q hq=>?_⟩;have h1:=sf.1;simp only[bX,k1,if_true,beq_iff_eq]at h1;have:al=[]:=bk.1 (by omega);subst this;simp at hq
   ·rename_i k1;split at h
    ·omega
    ·rename_i l hl;exact⟨Qn vG (fun k=>absurd k k1) h,fun q hq=>AO vG d q (AN hl q hq)⟩
  ·omega
theorem te{ws:List Int}{p:ax}(h:1<=dq p ws):fit p=true/\dq p ws=cy ws 6 p:=by
 unfold dq at h⊢;split at h
 ·rename_i g;simp only[aj,decide_eq_true_iff]at g;rw[if_pos (by simp[g])];exact⟨by simp only[fit,aj,decide_eq_true_iff];exact⟨AO g.1 6 p h,g.2⟩,rfl⟩
 ·omega
theorem fH{ws:List Int}{now keep:Int}{v:View}:fD ws now keep v=true↔(fit v.fM.dx=true/\lT 6 v.fM=true)/\1<=dq v.fM.dx ws/\0<=v.bF/\v.bF<=now/\iv v.base (dq v.fM.dx ws)=true/\v.aZ.length<=40/\
  dG (if v.bF>keep then v.bF else keep) now (dq v.fM.dx ws) none v.aZ=true:=by
   simp only[fD,wK,aj,decide_eq_true_iff]
theorem dW{s:bJ}:cu s=true↔s.bc.length<=3/\s.aF.length=s.bc.length/\s.aK.length<=3/\0<=s.keep/\s.keep<=s.now/\s.now<=40/\iw s.bc s.aF=true/\ ∀v∈s.aK,fD s.bc s.now s.keep v=true:=by
 simp only[cu,aj,decide_eq_true_iff,aG]
theorem jT{z:List Item}{w:Int}:iv z w=true↔dH w z/\c7 z=true:=by
 simp only[iv,mw,aj,aG,decide_eq_true_iff,dH]
theorem mP{z:List Item}{w:Int}:rR z w=true↔((∀x∈z,1<=x.w)/\dH w z)/\c7 z=true:=by
 simp only[rR,aj,aG,decide_eq_true_iff,dH];exact⟨fun h=>⟨⟨fun x hx=>(h.1 x hx).1,fun x hx=>(h.1 x hx).2⟩,h.2⟩,fun h=>⟨fun x hx=>⟨h.1.1 x hx,h.1.2 x hx⟩,h.2⟩⟩
theorem lY: ∀{ws:List Int}{ts:List (List Item)},iw ws ts=true-> ∀(i:Nat) z v,ts[i]?=some z->ws[i]?=some v->(1<=v/\v<=6)/\rR z v=true
 |w::ws,t::ts,h,i,z,v,hz,hv=>by
  simp only[iw,aj,decide_eq_true_iff]at h
  cases i with
  |zero=>simp at hz hv;subst hz hv;exact⟨⟨h.1.1,h.1.2.1⟩,h.1.2.2⟩
  |succ i=>exact lY h.2 i z v (by simpa using hz) (by simpa using hv)
 | [],_,_,i,z,v,hz,hv=>by simp at hv
 |_::_,[],_,i,z,v,hz,hv=>by simp at hz
theorem AP{w cA:Int}: ∀{ps:List cC}{z:List Item},dH w z->(∀p∈ps,dH w p.out)->dH w (jP cA z ps)
 | [],z,hz,_=>hz
 |p::ps,z,hz,hp=>by
  simp only[jP];refine AP ?_ fun q hq=>hp q (by simp[hq]);split
  ·exact iI hz (hp p (by simp))
  ·exact hz
def sP(s:bJ):Prop:=cu s=true/\s.bc=[2,2]/\ ∀v∈s.aK,lA [2,2] 6 v.fM (dq v.fM.dx [2,2])
theorem Qo{ps:List cC}(h: ∀p∈ps,c7 p.out=true):ba.eQ (ps.map cC.d)<=700*ps.length:=by
 induction ps with
 |nil=>simp[ba.eQ]
 |cons p ps ih=>
  have h1:=ih fun q hq=>h q (by simp[hq]);have h2:=wQ (h p (by simp));simp only[aM,ba.eQ,cC.d,ba.eX,aJ];simp only[aE.d,ba.eX]at h2;simp only[aE.d,ba.eX];omega
theorem Ct{s:bJ}(h:sP s): ∀v∈s.aK,many 6 v.fM.dx<=10/\1<=dq v.fM.dx [2,2]:=fun v hv=>by
 have h1:=fH.1 ((dW.1 h.1).2.2.2.2.2.2.2 v hv);rw[h.2.1]at h1;exact⟨(JH h1.1.1).2.2,h1.2.1⟩
theorem AQ{s:bJ}(h:sP s):s.d.eX<=400000:=by
 have h1:=dW.1 h.1
 have hv: ∀v∈s.aK,v.d.eX<=104000:=fun v hv=>by
  have h2:=fH.1 (h1.2.2.2.2.2.2.2 v hv);have h3:=JI 6 _ _ (h.2.2 v hv);have h4:=(Ct h v hv).1;obtain⟨z1,z2,z3⟩:=pJ (h1.2.2.2.2.2.2.2 v hv);have h5:=wQ z1;have h6:=Qo z2;rw[nD];omega
 have sF: ∀vs:List View,(∀v∈vs,v.d.eX<=104000)->ba.eQ (vs.map View.d)<=104000*vs.length:=by
  intro vs
  induction vs with
  |nil=>intro _;simp[ba.eQ]
  |cons v vs ih=>
   intro hx;have a1:=ih fun y hy=>hx y (by simp[hy]);have a2:=hx v (by simp);simp only[aM,ba.eQ,aJ];omega
 have a1:=sF _ hv
 have hz: ∀z∈s.aF,c7 z=true:=fun z hz=>by
  obtain⟨i,hi,rfl⟩:=List.mem_iff_getElem.1 hz;exact(mP.1 (lY h1.2.2.2.2.2.2.1 i _ (s.bc[i]'(by omega)) (au hi) (au (by omega))).2).2
 have a2:=AD hz;rw[d5];omega
theorem JT:sP AJ:=⟨by rfl,rfl,fun v hv=>by simp[AJ]at hv⟩
theorem Cu{s:bJ}(h:sP s):(∀(i:Nat) z v,s.aF[i]?=some z->s.bc[i]?=some v->c7 z=true/\dH v z)/\s.aF.length=2/\ ∀z∈s.aF,c7 z=true:=by
 have h1:=dW.1 h.1
 have key: ∀(i:Nat) z v,s.aF[i]?=some z->s.bc[i]?=some v->c7 z=true/\dH v z:=fun i z v hz hv=>by
  have:=mP.1 (lY h1.2.2.2.2.2.2.1 i z v hz hv).2;exact⟨this.2,this.1.2⟩
 refine⟨key,by rw[h1.2.1,h.2.1];rfl,fun z hz=>?_⟩;obtain⟨i,hi,rfl⟩:=List.mem_iff_getElem.1 hz;exact(key i _ (s.bc[i]'(by omega)) (au hi) (au (by omega))).1
theorem Cv{s:bJ}{p:ax}(h:sP s):sP (s9 s p).1:=by
 have h1:=dW.1 h.1;unfold s9;rw[if_neg (by simp[h.1])];split
 ·exact h
 ·rename_i hw;split
  ·exact h
  ·rename_i hl
   cases hs:hH (gQ p) s.aF with
   |none=>exact h
   |some r=>
    obtain⟨f,base⟩:=r;simp only;have A4:1<=dq p s.bc:=by omega
    obtain⟨hf,e4⟩:=te A4;obtain⟨f1,f2,f3⟩:=JH hf;have cY:=iM 6 p f2 (by omega) (by rw[<-e4];exact A4);rw[<-e4]at cY;obtain⟨g1,g2,g3,g4⟩:=sB (Cu h).1 6 _ f _ base cY hs;rw[xZ]at g4;refine⟨dW.2 ⟨h1.1,h1.2.1,by simp;omega,h1.2.2.2.1,h1.2.2.2.2.1,h1.2.2.2.2.2.1,h1.2.2.2.2.2.2.1,fun v hv=>?_⟩,h.2.1,fun v hv=>?_⟩
    ·rcases bu.1 hv with hv|hv
     ·exact h1.2.2.2.2.2.2.2 v hv
     ·simp at hv;subst hv;exact fH.2 ⟨⟨by rw[g4];exact hf,yD 6 _ _ g1⟩,by rw[g4];exact A4,by dsimp only;omega,by dsimp only;omega,jT.2 ⟨by rw[g4];exact g3,g2⟩,by simp,rfl⟩
    ·rcases bu.1 hv with hv|hv
     ·exact h.2.2 v hv
     ·simp at hv;subst hv;dsimp only;rw[g4];rw[h.2.1]at g1;exact g1
theorem JU{s:bJ}{view fuel:Int}(h:sP s):sP (qI s view fuel).1:=by
 have h1:=dW.1 h.1;unfold qI;rw[if_neg (by simp[h.1])];split
 ·exact h
 ·rename_i hb;obtain⟨j,rfl⟩: ∃j:Nat,view=(j:Int):=⟨view.toNat,by omega⟩;have hj:j<s.aK.length:=by omega
  simp only[aq];have lJ:(s.aK.drop j).take 1=[s.aK[j]]:=by rw[ar hj];rfl
  rw[lJ];have kx:=ay hj;generalize s.aK[j]=v0 at kx
  have rq: ∀v∈s.aK.take j++[v0].map (wR · fuel)++s.aK.drop (j+1),v∈s.aK∨v=wR v0 fuel:=fun v hv=>by
   simp only[bu,aM,List.map_nil,List.mem_singleton]at hv;rcases hv with(hv|hv)|hv
   ·exact .inl (List.mem_of_mem_take hv)
   ·exact .inr hv
   ·exact .inl (List.mem_of_mem_drop hv)
  have cY:=Az 6 _ _ fuel (h.2.2 _ kx);have yt:=oB v0.fM fuel;refine⟨dW.2 ⟨h1.1,h1.2.1,by simp;omega,h1.2.2.2.1,h1.2.2.2.2.1,h1.2.2.2.2.2.1,h1.2.2.2.2.2.2.1,fun v hv=>?_⟩,h.2.1,fun v hv=>?_⟩
  ·rcases rq v hv with hv|rfl
   ·exact h1.2.2.2.2.2.2.2 v hv
   ·have h2:=fH.1 (h1.2.2.2.2.2.2.2 _ kx);refine fH.2 ?_;simp only[wR,yt];exact⟨⟨h2.1.1,yD 6 _ _ cY⟩,h2.2⟩
  ·rcases rq v hv with hv|rfl
   ·exact h.2.2 v hv
   ·simp only[wR,yt];exact cY
theorem sb{w lo Kj now cA:Int}: ∀{ps:List cC}{q q':Option Int},dG lo now w q ps=true->(∀p∈ps,cA<p.cA->lo<p.cA->Kj<p.cA)->(∀y,q'=some y-> ∀p∈ps,y<p.cA)->dG Kj now w q' (r6 cA ps)=true
 | [],_,_,_,_,_=>rfl
 |p::ps,q,q',h,hl,hq=>by
  simp only[dG,aj,decide_eq_true_iff]at h;obtain⟨⟨h1,h2,h3,h4⟩,h5⟩:=h
  have ord: ∀{ps:List cC}{y:Int},dG lo now w (some y) ps=true-> ∀p∈ps,y<p.cA:=by
   intro ps
   induction ps with
   |nil=>intro y _ p hp;simp at hp
   |cons r rs ih=>
    intro y hy p hp;simp only[dG,aj,decide_eq_true_iff]at hy;rcases aW.1 hp with rfl|hp
    ·exact hy.1.2.2.2
    ·have:=ih hy.2 p hp;have:=hy.1.2.2.2;omega
  simp only[r6,List.filter_cons];split
  ·rename_i g;have g':p.cA>cA:=by simpa using g
   simp only[dG,aj,decide_eq_true_iff];refine⟨⟨hl p (by simp) g' h1,h2,h3,?_⟩,sb h5 (fun r hr=>hl r (by simp[hr])) fun y hy r hr=>?_⟩
   ·cases q' with
    |none=>rfl
    |some y=>simpa using hq y rfl p (by simp)
   ·simp at hy;subst hy;exact ord h5 r hr
  ·exact sb h5 (fun r hr=>hl r (by simp[hr])) fun y hy r hr=>hq y hy r (by simp[hr])
theorem Cw{s:bJ}{cA:Int}(h:sP s):sP (tc s cA).1:=by
 have h1:=dW.1 h.1;unfold tc;rw[if_neg (by simp[h.1])];split
 ·exact h
 ·rename_i g1;split
  ·exact h
  ·rename_i g2;split
   ·rename_i g3;simp only[aG]at g3;refine⟨dW.2 ⟨h1.1,h1.2.1,by simp;omega,by dsimp only;omega,by dsimp only;omega,h1.2.2.2.2.2.1,h1.2.2.2.2.2.2.1,fun v hv=>?_⟩,h.2.1,fun v hv=>?_⟩
    ·obtain⟨u,hu,rfl⟩:=bj.1 hv;have h2:=fH.1 (h1.2.2.2.2.2.2.2 _ hu);obtain⟨a1,a2,a3,a4,a5,a6,a7⟩:=h2;refine fH.2 ⟨a1,a2,a3,a4,jT.2 ⟨AP (jT.1 a5).1 fun p hp=>(jT.1 (oF a7 p hp)).1,g3 u hu⟩,bw (List.length_filter_le _ _) a6,?_⟩;refine sb a7 (fun p hp l1 l2=>?_) fun y hy=>by cases hy
     show(if u.bF>cA then u.bF else cA)<p.cA;split<;>split at l2<;>omega
    ·obtain⟨u,hu,rfl⟩:=bj.1 hv;exact h.2.2 u hu
   ·exact h
theorem Cx{w lo now XG:Int}(hn:now<=XG): ∀{ps:List cC}{q:Option Int},dG lo now w q ps=true->dG lo XG w q ps=true
 | [],_,_=>rfl
 |p::ps,q,h=>by
  simp only[dG,aj,decide_eq_true_iff]at h⊢;exact⟨⟨h.1.1,by omega,h.1.2.2⟩,Cx hn h.2⟩
theorem AR{w lo now:Int}{out:List Item}(ho:iv out w=true): ∀{ps:List cC}{q:Option Int},lo<=now->(∀y,q=some y->y<=now)->dG lo now w q ps=true->dG lo (now+1) w q (ps++[⟨now+1,out⟩])=true
 | [],q,hl,hq,_=>by
  simp only[List.nil_append,dG,aj,decide_eq_true_iff];refine⟨⟨by omega,by omega,ho,?_⟩,trivial⟩
  cases q with
  |none=>rfl
  |some y=>have:=hq y rfl;simp;omega
 |p::ps,q,hl,hq,h=>by
  simp only[List.cons_append,dG,aj,decide_eq_true_iff]at h⊢;exact⟨⟨h.1.1,by omega,h.1.2.2⟩,AR ho hl (fun y hy=>by simp at hy;omega) h.2⟩
theorem Cy{w lo now:Int}: ∀{ps:List cC}{y:Int},dG lo now w (some y) ps=true->y<=now->(ps.length:Int)<=now-y
 | [],y,_,hy=>by simp;omega
 |p::ps,y,h,hy=>by
  simp only[dG,aj,decide_eq_true_iff]at h;have:=Cy h.2 h.1.2.1;have:=h.1.2.2.2;simp only[aJ];omega
theorem JV{w lo now:Int}{ps:List cC}(h:dG lo now w none ps=true)(hl:lo<=now):(ps.length:Int)<=now-lo:=by
 cases ps with
 |nil=>simp;omega
 |cons p ps=>
  simp only[dG,aj,decide_eq_true_iff]at h;have:=Cy h.2 h.1.2.1;simp only[aJ];omega
theorem AS: ∀{aF aH:List (List Item)}(i:Nat) z,(jy aF aH)[i]?=some z-> ∃t,aF[i]?=some t/\((∃u,aH[i]?=some u/\z=ct t u)∨(z=t))
 | [],_,i,z,h=>by simp[jy]at h
 |t::ts,[],i,z,h=>by
  simp only[jy]at h
  cases i with
  |zero=>simp at h;subst h;exact⟨t,rfl,.inr rfl⟩
  |succ i=>
   obtain⟨t',e1,e2⟩:=AS (aF:=ts) (aH:=[]) i z (by simpa using h);refine⟨t',by simpa using e1,?_⟩;rcases e2 with⟨u,hu,_⟩|e2
   ·simp at hu
   ·exact .inr e2
 |t::ts,u::us,i,z,h=>by
  simp only[jy]at h
  cases i with
  |zero=>simp at h;subst h;exact⟨t,rfl,.inl ⟨u,rfl,rfl⟩⟩
  |succ i=>simpa using AS i z (by simpa using h)
theorem tU{t:Int}{aH:List (List Item)}: ∀{vs ws:List View},fe t aH vs=some ws-> ∀w∈ws,∃v∈vs,mA t aH v=some w
 | [],ws,h,w,hw=>by simp only[fe,Option.some.injEq]at h;subst h;simp at hw
 |v::vs,ws,h,w,hw=>by
  simp only[fe]at h
  cases h1:mA t aH v with
  |none=>rw[h1]at h;cases h
  |some v'=>
   rw[h1]at h
   cases h2:fe t aH vs with
   |none=>rw[h2]at h;cases h
   |some eo=>
    rw[h2]at h;simp only[Option.some.injEq]at h;subst h;rcases aW.1 hw with rfl|hw
    ·exact⟨v,by simp,h1⟩
    ·obtain⟨u,hu,e⟩:=tU h2 w hw;exact⟨u,by simp[hu],e⟩
theorem AU: ∀{ws:List Int}{ts:List (List Item)},(∀(i:Nat) z v,ts[i]?=some z->ws[i]?=some v->(1<=v/\v<=6)/\rR z v=true)->iw ws ts=true
 |w::ws,t::ts,h=>by
  simp only[iw,aj,decide_eq_true_iff];have h0:=h 0 t w rfl rfl
  exact⟨⟨h0.1.1,h0.1.2,h0.2⟩,AU fun i z v hz hv=>h (i+1) z v (by simpa using hz) (by simpa using hv)⟩
 | [],_,_=>rfl
 |_::_,[],_=>rfl
theorem Cz{s:bJ}{aH:List (List Item)}(h:sP s):sP (td s aH).1:=by
 have h1:=dW.1 h.1;unfold td;rw[if_neg (by simp[h.1])];split
 ·exact h
 ·rename_i g1;split
  ·exact h
  ·rename_i g2;split
   ·exact h
   ·rename_i g3;obtain⟨t1,t2,t3⟩:=Qg (by simpa using g1) (by omega)
    cases hv:fe (s.now+1) aH s.aK with
    |none=>exact h
    |some vs=>
     simp only
     have hr:(jy s.aF aH).any x5=false/\(jy s.aF aH).all c7=true:=by
      have sM:iR s.aF aH=0:=by simpa using g2
      unfold iR at sM;split at sM
      ·cases sM
      ·rename_i a1;split at sM
       ·rename_i a2;exact⟨by simpa using a1,a2⟩
       ·cases sM
     simp only[List.any_eq_false,aG]at hr
     have hvw: ∀v∈s.aK,∀v',mA (s.now+1) aH v=some v'->fD s.bc (s.now+1) s.keep v'=true/\lA [2,2] 6 v'.fM (dq v'.fM.dx [2,2]):=fun v VJ v' xT=>by
      have cY:=h.2.2 v VJ;obtain⟨a1,a2,a3,a4,a5,a6,a7⟩:=fH.1 (h1.2.2.2.2.2.2.2 v VJ);unfold mA at xT
      cases hs:hH v.fM aH with
      |none=>rw[hs]at xT;cases xT
      |some r=>
       obtain⟨f,out⟩:=r;rw[hs]at xT;simp only at xT;split at xT
       ·simp only[Option.some.injEq]at xT;subst xT;rw[h.2.1]at t1;obtain⟨b1,b2,b3,b4⟩:=sB t1 6 _ f _ out cY hs;simp only[b4];refine⟨fH.2 ?_,by simpa only[b4]using b1⟩;simp only[b4];rw[h.2.1]at a2 a5 a7⊢;have yp:(if v.bF>s.keep then v.bF else s.keep)<=s.now:=by split<;>omega
        refine⟨⟨a1.1,yD 6 _ _ b1⟩,a2,a3,by omega,a5,?_,?_⟩
        ·have:=JV a7 yp;have:0<=(if v.bF>s.keep then v.bF else s.keep):=by split<;>omega
         by_cases ho:out=[]
         ·rw[if_pos ho];omega
         ·rw[if_neg ho];simp only[List.length_append,aJ,List.length_nil];omega
        ·by_cases ho:out=[]
         ·rw[if_pos ho];exact Cx (by omega) a7
         ·rw[if_neg ho];exact AR (jT.2 ⟨b3,b2⟩) yp (fun y hy=>by cases hy) a7
       ·cases xT
     refine⟨dW.2 ⟨h1.1,by dsimp only;rw[AI];exact h1.2.1,by dsimp only;rw[tS hv];exact h1.2.2.1,h1.2.2.2.1,by dsimp only;omega,by dsimp only;omega,AU fun i z v hz hw=>?_,fun w hw=>?_⟩,h.2.1,fun w hw=>?_⟩
     ·obtain⟨t,ht,M5⟩:=AS i z hz;obtain⟨c1,c2⟩:=lY h1.2.2.2.2.2.2.1 i t v ht hw;refine⟨c1,mP.2 ⟨⟨fun x hx=>?_,?_⟩,hr.2 z (aV hz)⟩⟩
      ·have e1:=hr.1 z (aV hz);have e2:=Ha (hr.2 z (aV hz)) x hx;simp only[x5,List.any_eq_true,not_exists,not_and,decide_eq_true_iff]at e1;have e3:=e1 x hx;have e4:=e2.2;simp only[Nu,aj,Bool.not_eq_true',beq_eq_false_iff_ne]at e4;have:=e4.2.2;omega
      ·rcases M5 with⟨u,hu,rfl⟩|rfl
       ·exact iI (mP.1 c2).1.2 (t1 i u v hu hw).2
       ·exact(mP.1 c2).1.2
     ·obtain⟨v,VJ,e⟩:=tU hv w hw;exact(hvw v VJ w e).1
     ·obtain⟨v,VJ,e⟩:=tU hv w hw;exact(hvw v VJ w e).2
end Go.Proofs.YtfepbikckfehlaaGreat
set_option maxHeartbeats 4000000
namespace Go.Proofs.YtfepbikckfehlaaGreat
open Go Go.Am
variable{pr:bL}(hp:bV pr)
set_option maxRecDepth 100000
theorem lC{s:bJ}(ht:s.d.eX<=1048576):s.da.dep<=4000000:=by
 have e:=bJ.UO s;have:=(Kz _).1 s.da (aB _);omega
theorem JW{h:aC}{s:bJ}{v:af}{F:List Nat}(ht:s.d.eX<=1048576)(ho:bP h s.da v F):Am.snap h v=some s.enc:=by
 rw[<-bJ.gS];exact bP.snap ho (by have:=lC ht;omega)
theorem Qp(hp:bV pr){s:bJ}(hs:sP s){v:af}{F:List Nat}{h:aC}{L:List Chunk}{k n:Nat}(S:ah h (.rd k n:: .cU s.da v F::L))(hn:n<=80000000000){K:dz->Prop}
  (hK: ∀(s':bJ) v' F' h',sP s'->ah h' (.rd k (n+2000):: .cU s'.da v' F'::L)->K (.ret v' h')):
  ∃r,bN (du pr) (call (du pr)) 51 [.ptr k 0 0,v] h=some r/\K r:=by
   have tQ:s.d.eX<=1048576:=by have:=AQ hs;omega
   have hz: ∀x:bJ×Int,sP x.1->x.1.d.eX<=1048576:=fun x hx=>by have:=AQ hx;omega
   have mY: ∀{h':aC}{m:Nat}{L':List Chunk},ah h' (.rd k m:: .cU s.da v F::L')->Am.snap h' v=some s.enc:=fun S'=>JW tQ (S'.get 1 rfl);obtain⟨JK,Qd,P3⟩:=Cu hs;have QC:cu s=true->(∀(i:Nat) z v,s.aF[i]?=some z->s.bc[i]?=some v->c7 z=true/\dH v z)/\s.aF.length<=1000/\ ∀z∈s.aF,c7 z=true:=fun _=>⟨JK,by omega,P3⟩;have hwt:s.bc.length=s.aF.length:=by rw[hs.2.1,Qd];rfl
   have Gn: ∀w∈s.bc,1<=w/\w<=6:=fun w hw=>by rw[hs.2.1]at hw;simp at hw;omega
   have hsv: ∀v∈s.aK,lA s.bc 6 v.fM (dq v.fM.dx [2,2]):=fun v hv=>by rw[hs.2.1];exact hs.2.2 v hv
   have aaG:cu s=true-> ∀v∈s.aK,∃w,lA s.bc 6 v.fM w/\many 6 v.fM.dx<=10:=fun _ v hv=>⟨_,hsv v hv,(Ct hs v hv).1⟩
   have aaH: ∀{p:ax},cu s=true->1<=dq p s.bc->lA s.bc 6 (gQ p) (dq p s.bc):=fun{p} _ A4=>by
    obtain⟨hf,e4⟩:=te A4;obtain⟨f1,f2,f3⟩:=JH hf;have cY:=iM 6 p f2 (by omega) (by rw[<-e4];exact A4);rw[<-e4]at cY;exact cY
   obtain⟨W,T,V,rfl,fJ,_,_⟩:=iy (show bP h _ v F from S.get 1 rfl);rw[mh rfl];refine cS (hp.out _ rfl) ?_;conv=>whnf
   intro k1 a1 dw dC;replace S:=S.alloc dw dC;conv=>whnf
   intro k2 a2 jf iB;replace S:=S.alloc jf iB;conv=>whnf
   refine aI (S.row 1 rfl) ?_;conv=>whnf
   intro k3 a3 kS jN;replace S:=S.alloc kS jN;conv=>whnf
   refine⟨[W,T,V,i64 _,i64 _],(by kernel_rfl),rfl,fJ,.inl ⟨_,S.row 0 rfl,rfl,?_⟩⟩;conv=>whnf
   intro h1 Qq;replace S:=S.w0 Qq;conv=>whnf
   replace S:=S.q4;replace S:=S.q4;refine di hp _ S (by omega) fun x h2 hx S1=>?_;replace S:=S1;clear S1;conv=>whnf
   refine ae (fun g1=>?_) (fun g1=>?_)
   ·conv=>whnf
    refine aI (S.row 4 rfl) ?_;conv=>whnf
    refine Qk hp S (by omega) fun p h5 je S1=>?_;replace S:=S1;clear S1;have hd:=Hq hp s p tQ (by unfold ax.small;omega) aaH QC (hz _ (Cv hs));have hi:=Cv (p:=p) hs;generalize s9 s p=r9 at hd hi;obtain⟨aw,pn,⟨tk,qP,⟨t1,t2,t3,t4⟩,⟨t5,t6,t7,t8⟩⟩,cells,pa,pb,ao,agg,col,al⟩:=p;conv=>whnf
    refine⟨?_,?_⟩
    ·repeat
      ((conv=>whnf);first|trivial|refine⟨by first|((conv=>whnf);exact bO rfl (S.row 4 rfl) rfl rfl),?_⟩)
    conv=>whnf
    refine gA S hd rfl (bm (mY S) rfl) fun vs q1 F1 S1=>?_;obtain⟨v2,G2,rfl,S2⟩:=ah.xz S1;clear S1 S;have S:=S2;obtain⟨W2,T2,V2,rfl,Ea,_,_⟩:=iy (show bP _ _ v2 G2 from S2.get 0 rfl);clear S2;conv=>whnf
    refine⟨[W2,T2,V2,i64 _,i64 _],(by kernel_rfl),rfl,Ea,.inl ⟨_,S.row 3 rfl,rfl,?_⟩⟩;conv=>whnf
    intro h8 nK;replace S:=S.w3 nK;conv=>whnf
    refine aI (S.row 3 rfl) ?_;conv=>whnf
    refine⟨[W2,T2,V2,i64 _,i64 _],(by kernel_rfl),rfl,Ea,.inl ⟨_,S.row 4 rfl,rfl,?_⟩⟩;conv=>whnf
    intro h9 lX;replace S:=S.w4 lX;conv=>whnf
    have S2:=((((S.drop 5).drop 4).drop 3).drop 2).swap;dsimp only[List.eraseIdx]at S2;exact⟨_,dI rfl rfl (S.row 4 rfl) rfl,hK _ _ _ _ hi (ah.eh S2 (by omega))⟩
   conv=>whnf
   refine ae (fun g2=>?_) (fun g2=>?_)
   ·conv=>whnf
    refine aI (S.row 4 rfl) ?_;conv=>whnf
    refine aI (S.row 4 rfl) ?_;conv=>whnf
    refine di hp _ S (by omega) fun cA h5 hat S1=>?_;replace S:=S1;clear S1;have hd:=Hr hp s cA tQ (hz _ (Cw hs));have hi:=Cw (cA:=cA) hs;generalize tc s cA=r9 at hd hi;conv=>whnf
    refine⟨?_,?_⟩
    ·repeat
      ((conv=>whnf);first|trivial|refine⟨by first|((conv=>whnf);exact bO rfl (S.row 4 rfl) rfl rfl),?_⟩)
    conv=>whnf
    refine gA S hd rfl (bm (mY S) rfl) fun vs q1 F1 S1=>?_;obtain⟨v2,G2,rfl,S2⟩:=ah.xz S1;clear S1 S;have S:=S2;obtain⟨W2,T2,V2,rfl,Ea,_,_⟩:=iy (show bP _ _ v2 G2 from S2.get 0 rfl);clear S2;conv=>whnf
    refine⟨[W2,T2,V2,i64 _,i64 _],(by kernel_rfl),rfl,Ea,.inl ⟨_,S.row 3 rfl,rfl,?_⟩⟩;conv=>whnf
    intro h8 nK;replace S:=S.w3 nK;conv=>whnf
    refine aI (S.row 3 rfl) ?_;conv=>whnf
    refine⟨[W2,T2,V2,i64 _,i64 _],(by kernel_rfl),rfl,Ea,.inl ⟨_,S.row 4 rfl,rfl,?_⟩⟩;conv=>whnf
    intro h9 lX;replace S:=S.w4 lX;conv=>whnf
    have S2:=((((S.drop 5).drop 4).drop 3).drop 2).swap;dsimp only[List.eraseIdx]at S2;exact⟨_,dI rfl rfl (S.row 4 rfl) rfl,hK _ _ _ _ hi (ah.eh S2 (by omega))⟩
   conv=>whnf
   refine ae (fun g3=>?_) (fun g3=>?_)
   ·conv=>whnf
    refine aI (S.row 4 rfl) ?_;conv=>whnf
    intro kb ab Sj Sk;replace S:=(S.alloc Sj Sk).front 1 rfl;dsimp only[List.eraseIdx]at S;conv=>whnf
    refine di hp _ S (by omega) fun view h5 hat S1=>?_;replace S:=S1;clear S1;conv=>whnf
    refine⟨?_,?_⟩
    ·repeat
      ((conv=>whnf);first|trivial|refine⟨by first|((conv=>whnf);exact⟨_,rfl,S.row 1 rfl⟩)|((conv=>whnf);exact bO rfl (S.row 5 rfl) rfl rfl),?_⟩)
    conv=>whnf
    refine kQ hp [3,10,1000] (by simp) (by simp) S (by omega) fun fuel h6 hfu S1=>?_;replace S:=S1;clear S1;have hd:=DX hp s view fuel tQ aaG;have hi:=JU (view:=view) (fuel:=fuel) hs;generalize qI s view fuel=r9 at hd hi;conv=>whnf
    refine⟨?_,?_⟩
    ·repeat
      ((conv=>whnf);first|trivial|refine⟨by first|((conv=>whnf);exact bO rfl (S.row 4 rfl) rfl rfl),?_⟩)
    conv=>whnf
    refine gA S hd rfl (bm (mY S) rfl) fun vs q1 F1 S1=>?_;obtain⟨v2,G2,rfl,S2⟩:=ah.xz S1;clear S1 S;have S:=S2;obtain⟨W2,T2,V2,rfl,Ea,_,_⟩:=iy (show bP _ _ v2 G2 from S2.get 0 rfl);clear S2;conv=>whnf
    refine⟨[W2,T2,V2,i64 _,i64 _],(by kernel_rfl),rfl,Ea,.inl ⟨_,S.row 3 rfl,rfl,?_⟩⟩;conv=>whnf
    intro h8 nK;replace S:=S.w3 nK;conv=>whnf
    refine aI (S.row 3 rfl) ?_;conv=>whnf
    refine⟨[W2,T2,V2,i64 _,i64 _],(by kernel_rfl),rfl,Ea,.inl ⟨_,S.row 4 rfl,rfl,?_⟩⟩;conv=>whnf
    intro h9 lX;replace S:=S.w4 lX;conv=>whnf
    have S2:=((((S.drop 5).drop 4).drop 3).drop 2).swap;dsimp only[List.eraseIdx]at S2;exact⟨_,dI rfl rfl (S.row 4 rfl) rfl,hK _ _ _ _ hi (ah.eh S2 (by omega))⟩
   conv=>whnf
   refine aI (S.row 4 rfl) ?_;conv=>whnf
   refine aI (S.row 4 rfl) ?_;conv=>whnf
   refine M8 hp hwt (by omega) Gn P3 S (by omega) fun aH h5 Kv sU S1=>?_;replace S:=S1;clear S1;have hd:=Ht hp s aH tQ (by omega) sU (fun _ v hv=>⟨_,hsv v hv⟩) (fun _=>P3) (hz _ (Cz hs));have hi:=Cz (aH:=aH) hs;generalize td s aH=r9 at hd hi;conv=>whnf
   refine⟨?_,?_⟩
   ·repeat
     ((conv=>whnf);first|trivial|refine⟨by first|((conv=>whnf);exact bO rfl (S.row 4 rfl) rfl rfl),?_⟩)
   conv=>whnf
   refine gA S hd rfl (bm (mY S) rfl) fun vs q1 F1 S1=>?_;obtain⟨v2,G2,rfl,S2⟩:=ah.xz S1;clear S1 S;have S:=S2;obtain⟨W2,T2,V2,rfl,Ea,_,_⟩:=iy (show bP _ _ v2 G2 from S2.get 0 rfl);clear S2;conv=>whnf
   refine⟨[W2,T2,V2,i64 _,i64 _],(by kernel_rfl),rfl,Ea,.inl ⟨_,S.row 3 rfl,rfl,?_⟩⟩;conv=>whnf
   intro h8 nK;replace S:=S.w3 nK;conv=>whnf
   refine aI (S.row 3 rfl) ?_;conv=>whnf
   refine⟨[W2,T2,V2,i64 _,i64 _],(by kernel_rfl),rfl,Ea,.inl ⟨_,S.row 4 rfl,rfl,?_⟩⟩;conv=>whnf
   intro h9 lX;replace S:=S.w4 lX;conv=>whnf
   have S2:=((((S.drop 5).drop 4).drop 3).drop 2).swap;dsimp only[List.eraseIdx]at S2;exact⟨_,dI rfl rfl (S.row 4 rfl) rfl,hK _ _ _ _ hi (ah.eh S2 (by omega))⟩
end Go.Proofs.YtfepbikckfehlaaGreat

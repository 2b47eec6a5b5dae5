/- A store turned: the reference's. -/
import Derived.Test.YtfepbikckfehlaaGreatGH39
set_option linter.unusedVariables false
set_option linter.unusedSimpArgs false
set_option maxHeartbeats 4000000
namespace Go.Proofs.YtfepbikckfehlaaGreat
open Go Go.Am
variable{pr:bW}(hp:cF pr)
set_option maxRecDepth 100000
def m5:List Int->List (List Item)->Bool
 |w::ws,t::ts=>jN t w&&m5 ws ts
 |_,_=>true
def qu(ws:List Int)(aH aK:List (List Item)):Int:=if aK.length>aH.length then 1 else if m5 ws aK then 0 else 2
theorem Lz{ws:List Int}{ts:List (List Item)}{j:Nat}(h1:j<ws.length)(h2:j<ts.length):m5 (ws.drop j) (ts.drop j)=(jN ts[j] ws[j]&&m5 (ws.drop (j+1)) (ts.drop (j+1))):=by
 rw[aaf h1,aaf h2,m5]
theorem Jf{ws:List Int}{ts:List (List Item)}:m5 (ws.drop ts.length) (ts.drop ts.length)=true:=by
 rw[aal];cases ws.drop ts.length<;>rfl
theorem OZ(hp:cF pr)(s:bN)(aK:List (List Item))(hl:s.aH.length<=s.bc.length)(hw:s.bc.length<=1000)(RQ: ∀z∈aK,ij z)(Mn:aK.length<=1000):dK pr 118 [s.enc,bX.enc aK] (i64 (qu s.bc s.aH aK)):=by
 have e1:=fun(z:List Item)(w:Int)(h:z∈aK)=>Bq hp z w (RQ z h);obtain⟨bc,aH,aL,now,keep⟩:=s;dsimp only at hl hw⊢;have aQ:qu bc aH aK=qu bc aH aK:=rfl;conv at aQ=>rhs;unfold qu
 generalize qu bc aH aK=res at aQ⊢;refine kz hp rfl rfl ?_;have S:=aj.nil [];conv=>whnf
 intro k1 a1 eg er;replace S:=S.alloc eg er;refine aC (S.row 0 rfl) ?_;conv=>whnf
 refine ae (fun g0=>?_) (fun g0=>?_)
 ·rw[if_pos (by simpa using g0)]at aQ;subst aQ;conv=>whnf
  exact eJ rfl
 ·have fK:aK.length<=aH.length:=by simpa using g0
  rw[if_neg (by omega)]at aQ;conv=>whnf
  refine dQ (fun m tm hp=>∃(j:Nat),j+m=aK.length/\tm 5=i64 (j:Nat)/\aj hp [.row k1 (.box (bN.enc ⟨bc,aH,aL,now,keep⟩))]/\(m5 bc aK=m5 (bc.drop j) (aK.drop j))) (fun m tm hq bG hI=>?_) (aK.length) ⟨0,by simp,rfl,S,(rfl)⟩;obtain⟨j,hj,e5,S2,aF⟩:=hI;have k1:=bG 1 (by kernel_rfl);conv at k1=>rhs;whnf
  have k2:=bG 2 (by kernel_rfl);conv at k2=>rhs;whnf
  refine⟨[(1,_),(2,_),(5,_)],⟨k1,k2,e5,trivial⟩,?_⟩;clear bG k1 k2 e5;replace S:=S2;clear S2;conv=>whnf
  have gA:j<4611686018427387904:=by omega
  refine ae (fun h1=>?_) (fun h1=>?_)
  ·have bp:j<aK.length:=by simpa using h1
   have dw:(aK.map aI.enc)[((j:Nat):Int).toNat]?=some (aI.enc aK[j]):=by rw[aaa];simp[bp]
   have hjw:j<bc.length:=by omega
   have Yg:(bc.map i64)[((j:Nat):Int).toNat]?=some (i64 bc[j]):=by rw[aaa];simp[hjw]
   rw[Lz hjw bp]at aF;have hz:=e1 _ bc[j] (aac bp);generalize aK[j]=z at dw aF hz;generalize bc[j]=w at Yg aF hz;conv=>whnf
   refine⟨_,dw,by omega,rfl,?_⟩;refine aC (S.row 0 rfl) ?_;conv=>whnf
   refine⟨_,Yg,by omega,rfl,?_⟩;conv=>whnf
   refine⟨_,hz _,?_⟩;conv=>whnf
   refine ae (fun g1=>?_) (fun g1=>?_)
   ·rw[g1,aay]at aF;conv=>whnf
    exact⟨m-1,by omega,j+1,by omega,aP j gA,S,aF⟩
   ·rw[g1,Bool.false_and]at aF;rw[aF,if_neg (by simp)]at aQ;subst aQ;conv=>whnf
    exact eJ rfl
  ·have bp:j=aK.length:=by
    have: ¬j<aK.length:=by simpa using h1
    omega
   subst bp;rw[Jf]at aF;rw[aF,if_pos rfl]at aQ;subst aQ;conv=>whnf
   exact eJ rfl
def kR:List (List Item)->List (List Item)->List (List Item)
 |t::ts,u::us=>dt t u::kR ts us
 |t::ts,[]=>t::kR ts []
 | [],_=>[]
theorem Uf{aH aK:List (List Item)}{j:Nat}(h:j<aH.length):(∀h2:j<aK.length,kR (aH.drop j) (aK.drop j)=dt aH[j] aK[j]::kR (aH.drop (j+1)) (aK.drop (j+1)))/\(¬j<aK.length->kR (aH.drop j) (aK.drop j)=aH[j]::kR (aH.drop (j+1)) (aK.drop (j+1))):=by
 refine⟨fun h2=>?_,fun h2=>?_⟩
 ·rw[aaf h,aaf h2,kR]
 ·rw[aaf h,(List.drop_eq_nil_iff.2 (by omega):aK.drop j=[]),(List.drop_eq_nil_iff.2 (by omega):aK.drop (j+1)=[]),kR]
theorem M4{h:aG}{z:List Item}{id n:Nat}{F:List Nat}(ho:cq h (aI.d z) (.own id 0 n) F):n=z.length/\ ∃vs,h[id]?=some (.arr 2 vs)/\ ∀(i:Nat) x,z[i]?=some x-> ∃P,vs[i]?=some (.agg [P,i64 x.w]):=by
 unfold aI.d at ho;simp only[cq]at ho;rcases ho with⟨_,_,h1|h1⟩|⟨zS,vs,Fs,he,h5,h6,_⟩
 ·cases h1
 ·cases h1
 ·injection he with e1 _ e3;subst e1;refine⟨by rw[e3];simp,vs,h5,fun i x hi=>?_⟩;obtain⟨v,G,g1,g2⟩:=cZ.MO h6 i x.d (by simp[hi]);obtain⟨P,rfl,_⟩:=Item.open g2;exact⟨P,g1⟩
theorem B8: ∀{aH aK:List (List Item)},(∀z∈aH,dS z=true)->(∀z∈aK,dS z=true)-> ∀z∈kR aH aK,ij z
 | [],_,_,_,z,h=>by simp[kR]at h
 |t::ts,[],h1,h2,z,h=>by
  simp only[kR]at h;rcases aaz.1 h with rfl|h
  ·exact dC (h1 _ (by simp))
  ·exact B8 (fun y hy=>h1 y (by simp[hy])) h2 z h
 |t::ts,u::us,h1,h2,z,h=>by
  simp only[kR]at h;rcases aaz.1 h with rfl|h
  ·have a:=dA (h1 t (by simp));have b:=dA (h2 u (by simp));have c:=gx (a:=t) (b:=u) (dC (h1 t (by simp))).2 (dC (h2 u (by simp))).2;exact⟨by simp[dB];omega,c.2⟩
  ·exact B8 (fun y hy=>h1 y (by simp[hy])) (fun y hy=>h2 y (by simp[hy])) z h
theorem B9: ∀(aH aK:List (List Item)),(kR aH aK).length=aH.length
 | [],_=>by simp[kR]
 |t::ts,[]=>by simp only[kR,aak,B9 ts]
 |t::ts,u::us=>by simp only[kR,aak,B9 ts]
def zx(z:List Item):Bool:=z.any fun x=>decide (x.w<0)
def jR(aH aK:List (List Item)):Int:=if(kR aH aK).any zx then 3 else if(kR aH aK).all dS then 0 else 5
theorem LA(hp:cF pr){bc:List Int}{aH aK:List (List Item)}{now keep:Int}{W T V:af}{F:List Nat}{h:aG}{Q:List Chunk}(Mn:aH.length<=1000)(RQ: ∀z∈aH,dS z=true)(hul:aK.length<=1000)(Z6: ∀z∈aK,dS z=true)(S:aj h (.dL (.a 1 (aH.map aI.d)) T F::Q)):
  ∃r,cj (dZ pr) (call (dZ pr)) 119 [.agg [W,T,V,i64 now,i64 keep],bX.enc aK] h=some r/\
   ((jR aH aK=0/\ ∃v F' h',r= .ret (.eT [v,i64 0]) h'/\aj h' (.jA 1 ((kR aH aK).map aI.d) v F'::Q))∨(jR aH aK≠0/\ ∃h',r= .ret (.eT [.nil,i64 (jR aH aK)]) h'/\aj h' Q)):=by
    rw[nN rfl];refine dJ (hp.out _ rfl) ?_;conv=>whnf
    intro k1 a1 eg er;replace S:=S.alloc eg er;conv=>whnf
    rcases aj.B5 (S.swap)with⟨h0,rfl,S1⟩|⟨O0,vT,FT,rfl,rfl,S1⟩
    ·have ht0:aH=[]:=by simpa using h0
     subst ht0;replace S:=S1;clear S1;refine dQ (fun m tm hp=>tm 6= .nil/\tm 7=i64 0/\hp=a1) (fun mi U2 hq bG hI=>?_) 0 ⟨rfl,rfl,rfl⟩;obtain⟨e6,e7,rfl⟩:=hI;have e2:=bG 2 (by kernel_rfl);conv at e2=>rhs;whnf
     refine⟨[(2,_),(6,_),(7,_)],⟨e2,e6,e7,trivial⟩,?_⟩;clear bG e2 e6 e7;refine aC (S.row 0 rfl) ?_;conv=>whnf
     refine dQ (fun m tm hp=>tm 10=i64 0/\hp=hq) (fun m tm qD bG hI=>?_) 0 ⟨rfl,rfl⟩;obtain⟨sq,rfl⟩:=hI;have e6:=bG 6 (by kernel_rfl);conv at e6=>rhs;whnf
     refine⟨[(6,_),(10,_)],⟨e6,sq,trivial⟩,?_⟩;clear bG e6 sq;conv=>whnf
     exact⟨_,rfl,.inl ⟨rfl,_,_,_,rfl,aj.lJ 1 (S.drop 0)⟩⟩
    replace S:=S1;clear S1;have SY:(aH.map aI.d).length=aH.length:=by simp
    rw[SY]at S⊢;clear SY;replace S:=aj.lJ 1 S.swap
    refine dQ (fun m tm hp=>∃(i:Nat)(O:af)(FO FR:List Nat)(vd vr:List af)(outs:List (List Item)),i+m=aH.length/\tm 6=O/\tm 7=i64 (i:Nat)/\vd.length=i/\outs.length=i/\kR aH aK=outs++kR (aH.drop i) (aK.drop i)/\outs.any zx=false/\
     aj hp (.jA 1 (outs.map aI.d) O FO:: .ed ((aH.drop i).map aI.d) vr FR:: .row O0 (.arr 1 (vd++vr)):: .row k1 (.box (.agg [W,.own O0 0 aH.length,V,i64 now,i64 keep]))::Q)) (fun mi U2 hq bG hI=>?_) aH.length ⟨0,.nil,[],FT,[],vT,[],by simp,rfl,rfl,rfl,rfl,rfl,rfl,S⟩
    clear S;obtain⟨i,O,FO,FR,vd,vr,outs,hi,e6,e7,Ug,OW,zJ,LB,S⟩:=hI;have e1:=bG 1 (by kernel_rfl);conv at e1=>rhs;whnf
    have e2:=bG 2 (by kernel_rfl);conv at e2=>rhs;whnf
    refine⟨[(1,_),(2,_),(6,_),(7,_)],⟨e1,e2,e6,e7,trivial⟩,?_⟩;clear bG e1 e2 e6 e7;have xE:i<4611686018427387904:=by omega
    refine aC (S.row 3 rfl) ?_;conv=>whnf
    refine ae (fun g1=>?_) (fun g1=>?_)
    ·have nK:i<aH.length:=by simpa using g1
     obtain⟨EI,fP⟩:=Uf (aK:=aK) nK;have O1:=RQ _ (aac nK);rw[aaf nK,aao]at S;generalize aH[i]=z at S EI fP O1;obtain⟨zv,vr2,G,H,rfl,rfl,S2⟩:=aj.uZ S.swap;clear S;have S:=S2;clear S2;rw[show vd++zv::vr2=(vd++[zv])++vr2 by simp]at S;have hcz:=(show cq hq (.s 2 (z.map Item.d)) zv G from S.get 0 rfl).cell;have WJ:fZ (dZ pr).P 30 zv 0=some zv:=by rcases(show cq hq (.s 2 (z.map Item.d)) zv G from S.get 0 rfl).slice with rfl|rfl|⟨_,_,rfl⟩<;>rfl
     have jP:Am.snap hq zv=some (aI.enc z):=aI.iT (show cq hq (aI.d z) zv G from S.get 0 rfl);refine aC (S.row 4 rfl) ?_;conv=>whnf
     refine⟨_,S.row 3 rfl,⟨by omega,by omega⟩,?_⟩;conv=>whnf
     refine .inr ⟨_,_,_,S.row 3 rfl,(by rw[abr];exact ga Ug),gH (v:=zv) WJ ?_⟩;conv=>whnf
     refine ae (fun g2=>?_) (fun g2=>?_)
     ·have hiu:i<aK.length:=by simpa using g2
      have dN:=EI hiu;have dw:(aK.map aI.enc)[((i:Nat):Int).toNat]?=some (aI.enc aK[i]):=by rw[aaa];simp[hiu]
      have Zn:=Z6 _ (aac hiu);have Rd:=l9 hp z aK[i] (dC O1) (dC Zn) (by have:=(dA O1).1;have:=(dA Zn).1;simp[dB];omega);generalize aK[i]=u at dN dw Rd Zn;conv=>whnf
      refine⟨_,dw,by omega,rfl,?_⟩;conv=>whnf
      refine dG S Rd rfl (bu jP (bu rfl (dM _))) fun zv2 AO G2 S3=>?_;replace S:=(aj.ek S3).drop 1;dsimp only[List.eraseIdx]at S;clear S3;have Ge:(dt z u).length<4611686018427387904:=by have:=gx (a:=z) (b:=u) (dC O1).2 (dC Zn).2;have:=(dA O1).1;have:=(dA Zn).1;omega
      conv=>whnf
      rcases cq.sls (show cq AO (aI.d (dt z u)) zv2 _ from S.get 0 rfl) (aI.fG _)with⟨rfl,DS⟩|rfl|⟨Sv,rfl⟩
      ·have wJ:(dt z u)=[]:=by simpa using DS
       refine dQ (fun m tm hp=>tm 9=i64 0/\hp=AO) (fun m tm qD bG hI=>?_) 0 ⟨rfl,rfl⟩;obtain⟨e9,rfl⟩:=hI;have e1:=bG 1 (by kernel_rfl);conv at e1=>rhs;whnf
       have e2:=bG 2 (by kernel_rfl);conv at e2=>rhs;whnf
       have e6:=bG 6 (by kernel_rfl);conv at e6=>rhs;whnf
       have e7:=bG 7 (by kernel_rfl);conv at e7=>rhs;whnf
       have e8:=bG 8 (by kernel_rfl);conv at e8=>rhs;whnf
       refine⟨[(1,_),(2,_),(6,_),(7,_),(8,_),(9,_)],⟨e1,e2,e6,e7,e8,e9,trivial⟩,?_⟩;clear bG e1 e2 e6 e7 e8 e9;conv=>whnf
       replace S:=S.q2;intro pI pJ dT dU;replace S:=S.alloc dT dU;conv=>whnf
       refine⟨trivial,?_⟩;conv=>whnf
       refine⟨[_],bT (S.row 0 rfl),dI rfl rfl,?_⟩;replace S:=S.drop 0;dsimp only[List.eraseIdx]at S;refine lp (sz:=1) (d:=aI.d (dt z u)) S (by simp[bB];omega) fun k6 h6 F6 S2=>?_;clear S;have S:=S2;clear S2;conv=>whnf
       exact⟨mi-1,by omega,i+1,_,_,_,vd++[zv],_,outs++[(dt z u)],by omega,rfl,aP i xE,by simp[Ug],by simp[OW],by rw[zJ,dN,abr];rfl,by rw[List.any_append,LB,wJ];rfl,by rw[aaD];exact S⟩
      ·have DS:(dt z u)=[]:=by
        have:=show cq AO (aI.d (dt z u)) _ _ from S.get 0 rfl
        unfold aI.d at this;simp only[cq]at this;rcases this with⟨h1,_⟩|⟨_,_,_,h1,_⟩
        ·simpa using h1
        ·cases h1
       rw[DS]at S dN⊢;have wJ:([]:List Item)=[]:=rfl;refine dQ (fun m tm hp=>tm 9=i64 0/\hp=AO) (fun m tm qD bG hI=>?_) 0 ⟨rfl,rfl⟩;obtain⟨e9,rfl⟩:=hI;have e1:=bG 1 (by kernel_rfl);conv at e1=>rhs;whnf
       have e2:=bG 2 (by kernel_rfl);conv at e2=>rhs;whnf
       have e6:=bG 6 (by kernel_rfl);conv at e6=>rhs;whnf
       have e7:=bG 7 (by kernel_rfl);conv at e7=>rhs;whnf
       have e8:=bG 8 (by kernel_rfl);conv at e8=>rhs;whnf
       refine⟨[(1,_),(2,_),(6,_),(7,_),(8,_),(9,_)],⟨e1,e2,e6,e7,e8,e9,trivial⟩,?_⟩;clear bG e1 e2 e6 e7 e8 e9;conv=>whnf
       replace S:=S.q2;intro pI pJ dT dU;replace S:=S.alloc dT dU;conv=>whnf
       refine⟨trivial,?_⟩;conv=>whnf
       refine⟨[_],bT (S.row 0 rfl),dI rfl rfl,?_⟩;replace S:=S.drop 0;dsimp only[List.eraseIdx]at S;refine lp (sz:=1) (d:=aI.d ([]:List Item)) S (by simp[bB];omega) fun k6 h6 F6 S2=>?_;clear S;have S:=S2;clear S2;conv=>whnf
       exact⟨mi-1,by omega,i+1,_,_,_,vd++[zv],_,outs++[([]:List Item)],by omega,rfl,aP i xE,by simp[Ug],by simp[OW],by rw[zJ,dN,abr];rfl,by rw[List.any_append,LB,wJ];rfl,by rw[aaD];exact S⟩
      ·obtain⟨hn9,vz,eQ,kD⟩:=M4 (S.get 0 rfl);refine dQ (fun m tm hp=>∃j:Nat,j+m=(dt z u).length/\tm 9=i64 (j:Nat)/\hp=AO/\((dt z u).take j).any (fun x=>decide (x.w<0))=false) (fun m tm qD bG hI=>?_) (dt z u).length ⟨0,by simp,rfl,rfl,rfl⟩;obtain⟨j,Pl,e9,rfl,PT⟩:=hI;have e1:=bG 1 (by kernel_rfl);conv at e1=>rhs;whnf
       have e2:=bG 2 (by kernel_rfl);conv at e2=>rhs;whnf
       have e6:=bG 6 (by kernel_rfl);conv at e6=>rhs;whnf
       have e7:=bG 7 (by kernel_rfl);conv at e7=>rhs;whnf
       have e8:=bG 8 (by kernel_rfl);conv at e8=>rhs;whnf
       refine⟨[(1,_),(2,_),(6,_),(7,_),(8,_),(9,_)],⟨e1,e2,e6,e7,e8,e9,trivial⟩,?_⟩;clear bG e1 e2 e6 e7 e8 e9;have gA:j<4611686018427387904:=by have:=Ge;omega
       conv=>whnf
       refine ae (fun g5=>?_) (fun g5=>?_)
       ·have bp:j<(dt z u).length:=by simpa using g5
        obtain⟨P,Zo⟩:=kD j _ (aab bp);have vE:((dt z u).take (j+1)).any (fun x=>decide (x.w<0))=(((dt z u).take j).any (fun x=>decide (x.w<0))||decide (((dt z u)[j]).w<0)):=by rw[dX bp,List.any_append];simp
        have ig:decide (((dt z u)[j]).w<0)=true->zx (dt z u)=true:=fun h=>List.any_eq_true.2 ⟨_,aac bp,h⟩;generalize(dt z u)[j]=x at Zo vE ig;conv=>whnf
        refine⟨_,eQ,⟨by omega,by omega⟩,?_⟩;conv=>whnf
        refine .inr ⟨_,_,_,eQ,(by rw[aaK,aaa];exact Zo),?_⟩;conv=>whnf
        refine ae (fun g6=>?_) (fun g6=>?_)
        ·have rV:jR aH aK=3:=by
          unfold jR;rw[if_pos];rw[zJ,dN,List.any_append,List.any_cons,ig g6];simp
         rw[rV];conv=>whnf
         exact⟨_,rfl,.inr ⟨by decide,_,rfl,S.nQ 5⟩⟩
        ·conv=>whnf
         exact⟨m-1,by omega,j+1,by omega,aP j gA,rfl,by rw[vE,PT,g6];rfl⟩
       ·have bp:j=(dt z u).length:=by simp at g5;omega
        subst bp;rw[aar]at PT;have WZ:zx (dt z u)=false:=PT;conv=>whnf
        replace S:=S.q2;intro pI pJ dT dU;replace S:=S.alloc dT dU;conv=>whnf
        refine⟨trivial,?_⟩;conv=>whnf
        refine⟨[_],bT (S.row 0 rfl),dI rfl rfl,?_⟩;replace S:=S.drop 0;dsimp only[List.eraseIdx]at S;refine lp (sz:=1) (d:=aI.d (dt z u)) S (by simp[bB];omega) fun k6 h6 F6 S2=>?_;clear S;have S:=S2;clear S2;conv=>whnf
        exact⟨mi-1,by omega,i+1,_,_,_,vd++[zv],_,outs++[(dt z u)],by omega,rfl,aP i xE,by simp[Ug],by simp[OW],by rw[zJ,dN,abr];rfl,by rw[List.any_append,LB];simp only[List.any_cons,List.any_nil,WZ];rfl,by rw[aaD];exact S⟩
     ·have dN:=fP (by simpa using g2);have Ge:z.length<4611686018427387904:=by have:=(dA O1).1;omega
      clear WJ jP hcz;conv=>whnf
      rcases cq.sls (show cq hq (aI.d (z)) zv _ from S.get 0 rfl) (aI.fG _)with⟨rfl,DS⟩|rfl|⟨Sv,rfl⟩
      ·have wJ:(z)=[]:=by simpa using DS
       refine dQ (fun m tm hp=>tm 9=i64 0/\hp=hq) (fun m tm qD bG hI=>?_) 0 ⟨rfl,rfl⟩;obtain⟨e9,rfl⟩:=hI;have e1:=bG 1 (by kernel_rfl);conv at e1=>rhs;whnf
       have e2:=bG 2 (by kernel_rfl);conv at e2=>rhs;whnf
       have e6:=bG 6 (by kernel_rfl);conv at e6=>rhs;whnf
       have e7:=bG 7 (by kernel_rfl);conv at e7=>rhs;whnf
       have e8:=bG 8 (by kernel_rfl);conv at e8=>rhs;whnf
       refine⟨[(1,_),(2,_),(6,_),(7,_),(8,_),(9,_)],⟨e1,e2,e6,e7,e8,e9,trivial⟩,?_⟩;clear bG e1 e2 e6 e7 e8 e9;conv=>whnf
       replace S:=S.q2;intro pI pJ dT dU;replace S:=S.alloc dT dU;conv=>whnf
       refine⟨trivial,?_⟩;conv=>whnf
       refine⟨[_],bT (S.row 0 rfl),dI rfl rfl,?_⟩;replace S:=S.drop 0;dsimp only[List.eraseIdx]at S;refine lp (sz:=1) (d:=aI.d (z)) S (by simp[bB];omega) fun k6 h6 F6 S2=>?_;clear S;have S:=S2;clear S2;conv=>whnf
       exact⟨mi-1,by omega,i+1,_,_,_,vd++[.nil],_,outs++[(z)],by omega,rfl,aP i xE,by simp[Ug],by simp[OW],by rw[zJ,dN,abr];rfl,by rw[List.any_append,LB,wJ];rfl,by rw[aaD];exact S⟩
      ·have DS:(z)=[]:=by
        have:=show cq hq (aI.d (z)) _ _ from S.get 0 rfl
        unfold aI.d at this;simp only[cq]at this;rcases this with⟨h1,_⟩|⟨_,_,_,h1,_⟩
        ·simpa using h1
        ·cases h1
       rw[DS]at S dN⊢;have wJ:([]:List Item)=[]:=rfl;refine dQ (fun m tm hp=>tm 9=i64 0/\hp=hq) (fun m tm qD bG hI=>?_) 0 ⟨rfl,rfl⟩;obtain⟨e9,rfl⟩:=hI;have e1:=bG 1 (by kernel_rfl);conv at e1=>rhs;whnf
       have e2:=bG 2 (by kernel_rfl);conv at e2=>rhs;whnf
       have e6:=bG 6 (by kernel_rfl);conv at e6=>rhs;whnf
       have e7:=bG 7 (by kernel_rfl);conv at e7=>rhs;whnf
       have e8:=bG 8 (by kernel_rfl);conv at e8=>rhs;whnf
       refine⟨[(1,_),(2,_),(6,_),(7,_),(8,_),(9,_)],⟨e1,e2,e6,e7,e8,e9,trivial⟩,?_⟩;clear bG e1 e2 e6 e7 e8 e9;conv=>whnf
       replace S:=S.q2;intro pI pJ dT dU;replace S:=S.alloc dT dU;conv=>whnf
       refine⟨trivial,?_⟩;conv=>whnf
       refine⟨[_],bT (S.row 0 rfl),dI rfl rfl,?_⟩;replace S:=S.drop 0;dsimp only[List.eraseIdx]at S;refine lp (sz:=1) (d:=aI.d ([]:List Item)) S (by simp[bB];omega) fun k6 h6 F6 S2=>?_;clear S;have S:=S2;clear S2;conv=>whnf
       exact⟨mi-1,by omega,i+1,_,_,_,vd++[_],_,outs++[([]:List Item)],by omega,rfl,aP i xE,by simp[Ug],by simp[OW],by rw[zJ,dN,abr];rfl,by rw[List.any_append,LB,wJ];rfl,by rw[aaD];exact S⟩
      ·obtain⟨hn9,vz,eQ,kD⟩:=M4 (S.get 0 rfl);refine dQ (fun m tm hp=>∃j:Nat,j+m=(z).length/\tm 9=i64 (j:Nat)/\hp=hq/\((z).take j).any (fun x=>decide (x.w<0))=false) (fun m tm qD bG hI=>?_) (z).length ⟨0,by simp,rfl,rfl,rfl⟩;obtain⟨j,Pl,e9,rfl,PT⟩:=hI;have e1:=bG 1 (by kernel_rfl);conv at e1=>rhs;whnf
       have e2:=bG 2 (by kernel_rfl);conv at e2=>rhs;whnf
       have e6:=bG 6 (by kernel_rfl);conv at e6=>rhs;whnf
       have e7:=bG 7 (by kernel_rfl);conv at e7=>rhs;whnf
       have e8:=bG 8 (by kernel_rfl);conv at e8=>rhs;whnf
       refine⟨[(1,_),(2,_),(6,_),(7,_),(8,_),(9,_)],⟨e1,e2,e6,e7,e8,e9,trivial⟩,?_⟩;clear bG e1 e2 e6 e7 e8 e9;have gA:j<4611686018427387904:=by have:=Ge;omega
       conv=>whnf
       refine ae (fun g5=>?_) (fun g5=>?_)
       ·have bp:j<(z).length:=by simpa using g5
        obtain⟨P,Zo⟩:=kD j _ (aab bp);have vE:((z).take (j+1)).any (fun x=>decide (x.w<0))=(((z).take j).any (fun x=>decide (x.w<0))||decide (((z)[j]).w<0)):=by rw[dX bp,List.any_append];simp
        have ig:decide (((z)[j]).w<0)=true->zx (z)=true:=fun h=>List.any_eq_true.2 ⟨_,aac bp,h⟩;generalize(z)[j]=x at Zo vE ig;conv=>whnf
        refine⟨_,eQ,⟨by omega,by omega⟩,?_⟩;conv=>whnf
        refine .inr ⟨_,_,_,eQ,(by rw[aaK,aaa];exact Zo),?_⟩;conv=>whnf
        refine ae (fun g6=>?_) (fun g6=>?_)
        ·have rV:jR aH aK=3:=by
          unfold jR;rw[if_pos];rw[zJ,dN,List.any_append,List.any_cons,ig g6];simp
         rw[rV];conv=>whnf
         exact⟨_,rfl,.inr ⟨by decide,_,rfl,S.nQ 5⟩⟩
        ·conv=>whnf
         exact⟨m-1,by omega,j+1,by omega,aP j gA,rfl,by rw[vE,PT,g6];rfl⟩
       ·have bp:j=(z).length:=by simp at g5;omega
        subst bp;rw[aar]at PT;have WZ:zx (z)=false:=PT;conv=>whnf
        replace S:=S.q2;intro pI pJ dT dU;replace S:=S.alloc dT dU;conv=>whnf
        refine⟨trivial,?_⟩;conv=>whnf
        refine⟨[_],bT (S.row 0 rfl),dI rfl rfl,?_⟩;replace S:=S.drop 0;dsimp only[List.eraseIdx]at S;refine lp (sz:=1) (d:=aI.d (z)) S (by simp[bB];omega) fun k6 h6 F6 S2=>?_;clear S;have S:=S2;clear S2;conv=>whnf
        exact⟨mi-1,by omega,i+1,_,_,_,vd++[_],_,outs++[(z)],by omega,rfl,aP i xE,by simp[Ug],by simp[OW],by rw[zJ,dN,abr];rfl,by rw[List.any_append,LB];simp only[List.any_cons,List.any_nil,WZ];rfl,by rw[aaD];exact S⟩
    ·have nK:i=aH.length:=by simp at g1;omega
     subst nK;have U7:kR aH aK=outs:=by rw[zJ,aal];simp[kR]
     have xD:=B8 RQ Z6;rw[U7]at xD⊢;replace S:=((S.drop 1).drop 1).drop 1;dsimp only[List.eraseIdx]at S;have hR:jR aH aK=if outs.all dS then 0 else 5:=by unfold jR;rw[U7,if_neg (by rw[LB];simp)]
     have hA:sv 1 hq (outs.map aI.d) O FO:=S.get 0 rfl
     have hO:(O= .nil/\outs=[])∨ ∃id vs,O= .own id 0 outs.length/\hq[id]?=some (.arr 1 vs)/\ ∀(k:Nat) z,outs[k]?=some z-> ∃u G,vs[k]?=some u/\cq hq (aI.d z) u G:=by
      rcases hA.2 with rfl|⟨id,rfl⟩
      ·have h0:=hA.1;simp only[cq]at h0;rcases h0 with⟨h1,_⟩|⟨_,_,_,h1,_⟩
       ·exact .inl ⟨rfl,by simpa using h1⟩
       ·cases h1
      ·have h0:=hA.1;simp only[cq]at h0;rcases h0 with⟨_,_,h1|h1⟩|⟨zS,vs,Fs,he,h5,h6,_⟩
       ·cases h1
       ·cases h1
       ·injection he with e1;subst e1;exact .inr ⟨id,vs,by simp,h5,fun k z hk=>cZ.MO h6 k (aI.d z) (by simp[hk])⟩
     clear hA;conv=>whnf
     rcases hO with⟨rfl,rfl⟩|⟨idO,vO,rfl,eQ,kD⟩
     ·refine dQ (fun m tm hp=>tm 10=i64 0/\hp=hq) (fun m tm qD bG hI=>?_) 0 ⟨rfl,rfl⟩;obtain⟨sq,rfl⟩:=hI;have e6:=bG 6 (by kernel_rfl);conv at e6=>rhs;whnf
      refine⟨[(6,_),(10,_)],⟨e6,sq,trivial⟩,?_⟩;clear bG e6 sq;conv=>whnf
      exact⟨_,rfl,.inl ⟨by rw[hR];rfl,_,_,_,rfl,S⟩⟩
     ·refine dQ (fun m tm hp=>∃j:Nat,j+m=outs.length/\tm 10=i64 (j:Nat)/\hp=hq/\(outs.take j).all dS=true) (fun m tm qD bG hI=>?_) outs.length ⟨0,by simp,rfl,rfl,rfl⟩;obtain⟨j,hj,sq,rfl,R6⟩:=hI;have e6:=bG 6 (by kernel_rfl);conv at e6=>rhs;whnf
      refine⟨[(6,_),(10,_)],⟨e6,sq,trivial⟩,?_⟩;clear bG e6 sq;have gA:j<4611686018427387904:=by omega
      conv=>whnf
      refine ae (fun g5=>?_) (fun g5=>?_)
      ·have bp:j<outs.length:=by simpa using g5
       obtain⟨u,G,hgu,hou⟩:=kD j _ (aab bp);have hzj:=xD _ (aac bp);have vE:(outs.take (j+1)).all dS=((outs.take j).all dS&&dS outs[j]):=by rw[dX bp,List.all_append];simp
       have ig:dS outs[j]=false->outs.all dS=false:=fun h=>List.all_eq_false.2 ⟨_,aac bp,by rw[h];simp⟩;have Md:=(iU hp outs[j] hzj).here (h:=qD) (bu (aI.iT hou) (dM _)) rfl rfl;have hpu:fZ (dZ pr).P 30 u 0=some u:=by rcases(show cq qD (.s 2 ((outs[j]).map Item.d)) u G from hou).slice with rfl|rfl|⟨_,_,rfl⟩<;>rfl
       generalize outs[j]=z at vE ig Md;conv=>whnf
       refine⟨_,eQ,⟨by omega,by omega⟩,?_⟩;conv=>whnf
       refine .inr ⟨_,_,_,eQ,(by rw[aaK,aaa];exact hgu),gH (v:=u) hpu ?_⟩;conv=>whnf
       refine⟨_,Md,?_⟩;conv=>whnf
       refine ae (fun g6=>?_) (fun g6=>?_)
       ·conv=>whnf
        exact⟨m-1,by omega,j+1,by omega,aP j gA,rfl,by rw[vE,R6,g6];rfl⟩
       ·rw[hR,if_neg (by rw[ig g6];simp)];conv=>whnf
        exact⟨_,rfl,.inr ⟨by decide,_,rfl,S.drop 0⟩⟩
      ·have bp:j=outs.length:=by simp at g5;omega
       subst bp;rw[aar]at R6;conv=>whnf
       exact⟨_,rfl,.inl ⟨by rw[hR,if_pos R6],_,_,_,rfl,S⟩⟩
def nT(t:Int)(aK:List (List Item))(v:View):Option View:=match jg v.hU aK with
 |none=>none
 |some (f,out)=>if dS (dt (mP t v.base v.aZ) out)then some ⟨f,v.bO,v.base,if out=[]then v.aZ else v.aZ++[⟨t,out⟩]⟩else none
def gg(t:Int)(aK:List (List Item)):List View->Option (List View)
 | []=>some []
 |v::vs=>match nT t aK v with
  |none=>none
  |some v'=>match gg t aK vs with
   |none=>none
   |some fx=>some (v'::fx)
theorem tG{t:Int}{aK:List (List Item)}: ∀{xs:List View}{v:View},gg t aK (xs++[v])=(match gg t aK xs with
 |none=>none
 |some a=>match nT t aK v with
  |none=>none
  |some v'=>some (a++[v']))
 | [],v=>by
  simp only[List.nil_append,gg]
  all_goals(cases nT t aK v<;>rfl)
 |x::xs,v=>by
  simp only[abD,gg,tG (xs:=xs) (v:=v)]
  cases nT t aK x with
  |none=>rfl
  |some p=>
   cases gg t aK xs with
   |none=>rfl
   |some q=>cases nT t aK v<;>rfl
theorem zy{t:Int}{aK:List (List Item)}: ∀{xs ys:List View},gg t aK xs=none->gg t aK (xs++ys)=none
 | [],ys,h=>by simp[gg]at h
 |x::xs,ys,h=>by
  simp only[abD,gg]at h⊢
  cases h1:nT t aK x with
  |none=>rfl
  |some p=>
   rw[h1]at h;simp only at h⊢
   cases h2:gg t aK xs with
   |none=>rw[zy h2]
   |some q=>rw[h2]at h;cases h
theorem vA{t:Int}{aK:List (List Item)}: ∀{xs ys:List View},gg t aK xs=some ys->ys.length=xs.length
 | [],ys,h=>by simp only[gg,Option.some.injEq]at h;subst h;rfl
 |x::xs,ys,h=>by
  simp only[gg]at h
  cases h1:nT t aK x with
  |none=>rw[h1]at h;cases h
  |some p=>
   rw[h1]at h
   cases h2:gg t aK xs with
   |none=>rw[h2]at h;cases h
   |some q=>rw[h2]at h;simp only[Option.some.injEq]at h;subst h;simp[vA h2]
theorem aco{α:Type}{f:α->bg}{h:aG}{sz:Nat}{xs:List α}{v:af}{F:List Nat}(ho:cq h (.s sz (xs.map f)) v F):((v= .nil∨v= .sl [])/\xs=[])∨ ∃id,v= .own id 0 xs.length:=by
 simp only[cq]at ho;rcases ho with⟨h1,_,h3⟩|⟨id,_,_,rfl,_⟩
 ·exact .inl ⟨h3,by simpa using h1⟩
 ·exact .inr ⟨id,by simp⟩
def uH(s:bN)(aK:List (List Item)):bN×Int:=
 if dz s=false then(U6,6)else if qu s.bc s.aH aK≠0 then(s,qu s.bc s.aH aK)else if jR s.aH aK≠0 then(s,jR s.aH aK)else
  if s.now>=40 then(s,5)else match gg (s.now+1) aK s.aL with
  |none=>(s,5)
  |some vs=>(⟨s.bc,kR s.aH aK,vs,s.now+1,s.keep⟩,0)
theorem zz: ∀{ws:List Int}{ts:List (List Item)},m5 ws ts=true-> ∀(i:Nat) z v,ts[i]?=some z->ws[i]?=some v->dS z=true/\eB v z
 |w::ws,t::ts,h,i,z,v,hz,hv=>by
  simp only[m5,xz]at h
  cases i with
  |zero=>
   simp at hz hv;subst hz hv;refine⟨Br h.1,fun x hx=>?_⟩;have:=h.1;simp only[jN,nP,xz,aaj,decide_eq_true_iff]at this
   exact this.1 x hx
  |succ i=>exact zz h.2 i z v (by simpa using hz) (by simpa using hv)
 | [],_,_,i,z,v,hz,hv=>by simp at hv
 |_::_,[],_,i,z,v,hz,hv=>by simp at hz
theorem R7{ws:List Int}{aH aK:List (List Item)}(h:qu ws aH aK=0)(hl:aH.length<=ws.length):(∀(i:Nat) z v,aK[i]?=some z->ws[i]?=some v->dS z=true/\eB v z)/\aK.length<=aH.length/\ ∀z∈aK,dS z=true:=by
 unfold qu at h;split at h
 ·cases h
 ·split at h
  ·rename_i h1 h2;have h3:=zz h2;refine⟨h3,by omega,fun z hz=>?_⟩;obtain⟨i,hi,rfl⟩:=List.mem_iff_getElem.1 hz;exact(h3 i _ ws[i] (aab hi) (aab (by omega))).1
  ·cases h
theorem Jg(hp:cF pr)(s:bN)(aK:List (List Item))(ht:s.d.fA<=1048576)(hul:aK.length<=1000)(Z6: ∀z∈aK,ij z)(dN:dz s=true-> ∀v∈s.aL,∃w,mT s.bc 6 v.hU w)(Sp:dz s=true-> ∀z∈s.aH,dS z=true)
  (OY:(uH s aK).1.d.fA<=1048576):nc pr 85 [s.enc,bX.enc aK] [(uH s aK).1.da,.i (uH s aK).2]:=by
   have eb:=mQ hp s ht;have Gi:=nr hp s ht;have ir:=nr hp _ OY;have Pp:=fun h v hv=>tW (vi (s:=s) h v hv)
   have hlw:dz s=true->s.bc.length<=3/\s.aH.length=s.bc.length/\s.aL.length<=3/\s.now<=40/\0<=s.now:=fun h=>by
    simp only[dz,xz,decide_eq_true_iff]at h;exact⟨h.1,h.2.1,h.2.2.1,h.2.2.2.2.2.1,by omega⟩
   have Tj:=fun h1 h2=>OZ hp s aK h1 h2 Z6 hul;have aQ:uH s aK=uH s aK:=rfl;conv at aQ=>rhs;unfold uH
   generalize uH s aK=res at aQ ir OY⊢;have zn: ∀v∈s.aL,v.d.fA<=1048576:=fun v hv=>by have:=eK s;have:=eA (f:=View.d) hv;omega
   obtain⟨bc,aH,aL,now,keep⟩:=s;refine gT hp rfl ?_;have S:=aj.nil [];conv=>whnf
   intro k1 a1 eg er;replace S:=S.alloc eg er;conv=>whnf
   intro k2 a2 jS jb;replace S:=S.alloc jS jb;refine aC (S.row 1 rfl) ?_;conv=>whnf
   refine⟨_,eb _,?_⟩;conv=>whnf
   cases lf:dz ⟨bc,aH,aL,now,keep⟩with
   |false=>
    rw[lf]at aQ;rw[if_pos rfl]at aQ;subst aQ;conv=>whnf
    refine⟨_,rfl,rfl,rfl,.inl ⟨_,S.row 0 rfl,rfl,?_⟩⟩;conv=>whnf
    intro a3 nq;replace S:=S.w0 nq;conv=>whnf
    exact⟨_,aS rfl rfl (S.row 0 rfl) rfl rfl,_,_,_,rfl,iH (xh _) (uq 6),by simp⟩
   |true=>
    rw[lf,if_neg (by simp)]at aQ;dsimp only at aQ;have Pp:=Pp lf;obtain⟨Z2,htw,CI,acp,KA⟩:=hlw lf;have dN:=dN lf;have Sp:=Sp lf;dsimp only at Pp zn Z2 htw CI acp KA dN Sp Tj;have Tj:=Tj (by omega) (by omega);refine aC (S.row 1 rfl) ?_;conv=>whnf
    refine⟨_,Tj _,?_⟩;conv=>whnf
    refine ae (fun g1=>?_) (fun g1=>?_)
    ·rw[if_pos (by simpa using g1)]at aQ;refine aC (S.row 1 rfl) ?_;conv=>whnf
     refine fp S Gi rfl rfl fun v9 q9 F9 o9 S9=>?_;clear S o9;obtain⟨W9,T9,V9,_,_,_,rfl,c9,B6,pC,_⟩:=aj.iZ S9;subst aQ;conv=>whnf
     refine⟨[W9,T9,V9,i64 now,i64 keep],(by kernel_rfl),rfl,(bM c9 (bM B6 (bM pC rfl))),.inl ⟨_,S9.row 1 rfl,rfl,?_⟩⟩;conv=>whnf
     intro b9 j7;replace S9:=S9.w1 j7;conv=>whnf
     exact⟨_,aS rfl rfl (S9.row 1 rfl) rfl rfl,_,_,_,rfl,mA S9 _⟩
    have Y4:qu bc aH aK=0:=by simpa using g1
    rw[if_neg (by simpa using g1)]at aQ;obtain⟨Z0,SH,hu3⟩:=R7 Y4 (by omega);clear Tj;refine aC (S.row 1 rfl) ?_;conv=>whnf
    refine fp S Gi rfl rfl fun v q1 F1 o1 S1=>?_;clear S o1;obtain⟨W,T,V,G1,G2,G3,rfl,cW,cT,cV,S⟩:=aj.iZ S1;clear S1;replace S:=S.q1;replace S:=(S.is (c':=.dL (.a 1 (aH.map aI.d)) T G2) (cq.WU (S.get 0 rfl)) rfl).swap;conv=>whnf
    intro k3 a4 mF lI;replace S:=S.alloc mF lI;conv=>whnf
    refine⟨[W,T,V,i64 now,i64 keep],(by kernel_rfl),rfl,(bM cW (bM cT (bM cV rfl))),.inl ⟨_,S.row 0 rfl,rfl,?_⟩⟩;conv=>whnf
    intro b1 fw;replace S:=S.w0 fw;refine aC (S.row 0 rfl) ?_;conv=>whnf
    replace S:=S.q2;obtain⟨r9,hc,jH⟩:=LA hp (bc:=bc) (W:=W) (V:=V) (now:=now) (keep:=keep) (aK:=aK) (by omega) Sp hul hu3 S;refine⟨_,hc,?_⟩;clear hc S;rcases jH with⟨g2,T2,GT,Dc,rfl,S⟩|⟨g2,Dc,rfl,S⟩
    ·rw[if_neg (by rw[g2];simp)]at aQ;refine aC (S.row 1 rfl) ?_;conv=>whnf
     refine ae (fun g3=>?_) (fun g3=>?_)
     ·rw[if_pos (by simpa using g3)]at aQ;refine aC (S.row 5 rfl) ?_;conv=>whnf
      refine fp S Gi rfl rfl fun v9 q9 F9 o9 S9=>?_;clear S o9;obtain⟨W9,T9,V9,_,_,_,rfl,c9,B6,pC,_⟩:=aj.iZ S9;subst aQ;conv=>whnf
      refine⟨[W9,T9,V9,i64 now,i64 keep],(by kernel_rfl),rfl,(bM c9 (bM B6 (bM pC rfl))),.inl ⟨_,S9.row 5 rfl,rfl,?_⟩⟩;conv=>whnf
      intro b9 j7;replace S9:=S9.w5 j7;conv=>whnf
      exact⟨_,aS rfl rfl (S9.row 5 rfl) rfl rfl,_,_,_,rfl,mA S9 5⟩
     rw[if_neg (by simpa using g3)]at aQ;have cT2:=(show sv 1 Dc ((kR aH aK).map aI.d) T2 GT from S.get 0 rfl).1.cell;conv=>whnf
     refine⟨[T2],cT2.1,rfl,(Ii cT2.2),.inl ⟨_,S.row 1 rfl,rfl,?_⟩⟩;conv=>whnf
     intro b5 jF;replace S:=S.w1 jF;refine aC (S.row 1 rfl) ?_;conv=>whnf
     refine⟨_,rfl,rfl,rfl,.inl ⟨_,S.row 1 rfl,rfl,?_⟩⟩;conv=>whnf
     intro b6 tq;replace S:=S.w1 tq;conv=>whnf
     have Iu:IntKind.i64.wrap (now+1)=now+1:=by rw[aaC];omega
     have hV:=CU (show cq b6 (.a 25 (aL.map View.da)) V G3 from S.get 3 rfl);rw[Iu]at S;replace S:=S.q1;replace S:=S.q3;refine dQ (fun m tm hp=>∃(j:Nat)(F:List Nat)(zL:List bg)(done:List View),j+m=aL.length/\tm 10=i64 (j:Nat)/\gg (now+1) aK (aL.take j)=some done/\zL.map bg.enc=done.map View.enc/\(∀d∈zL,d.dep<=4000000)/\aj hp [.dL (.a 25 (zL++(aL.drop j).map View.da)) V F,.row k3 (.box (.agg [W,T2,V,i64 (now+1),i64 keep])),.jA 1 ((kR aH aK).map aI.d) T2 GT,.dL (.a 1 (bc.map bg.i)) W G1,.row k2 (.box rX),.row k1 (.box (bN.enc ⟨bc,aH,aL,now,keep⟩))]) (fun mi U2 hq bG hI=>?_) aL.length ⟨0,G3,[],[],by simp,rfl,rfl,rfl,by simp,S⟩;clear S;obtain⟨i,F,zL,done,hj,sq,aF,XD,NC,S⟩:=hI;have e1:=bG 1 (by kernel_rfl);conv at e1=>rhs;whnf
     have e2:=bG 2 (by kernel_rfl);conv at e2=>rhs;whnf
     have e4:=bG 4 (by kernel_rfl);conv at e4=>rhs;whnf
     have e7:=bG 7 (by kernel_rfl);conv at e7=>rhs;whnf
     refine⟨[(1,_),(2,_),(4,_),(7,_),(10,_)],⟨e1,e2,e4,e7,sq,trivial⟩,?_⟩;clear bG e1 e2 e4 e7 sq;have xE:i<4611686018427387904:=by omega
     refine aC (S.row 1 rfl) ?_;conv=>whnf
     rcases hV with⟨rfl,hn⟩|⟨id,rfl⟩
     ·have bp:i=aL.length:=by rw[hn]at hj⊢;simp at hj⊢;omega
      conv=>whnf
      subst bp;rw[aar]at aF;rw[aal,abA,aaw]at S;rw[aF]at aQ;subst aQ;dsimp only at ir OY;refine aC (S.row 1 rfl) ?_;conv=>whnf
      replace S:=S.q2;replace S:=aj.qU S;replace S:=S.q3;replace S:=S.swap;replace S:=S.q2;replace S:=S.swap;replace S:=S.q2;have oG:=Jb (aL:=done) (now:=now+1) (keep:=keep) XD NC S;refine fp S ir rfl (bu oG (dM _)) fun v9 q9 F9 o9 S9=>?_;clear S oG ir o9;obtain⟨W9,T9,V9,_,_,_,rfl,c9,B6,pC,_⟩:=aj.iZ S9;conv=>whnf
      refine⟨[W9,T9,V9,i64 (now+1),i64 keep],(by kernel_rfl),rfl,(bM c9 (bM B6 (bM pC rfl))),.inl ⟨_,S9.row 5 rfl,rfl,?_⟩⟩;conv=>whnf
      intro b9 j7;replace S9:=S9.w5 j7;conv=>whnf
      exact⟨_,aS rfl rfl (S9.row 5 rfl) rfl rfl,_,_,_,rfl,mA S9 0⟩
     ·conv=>whnf
      refine ae (fun g5=>?_) (fun g5=>?_)
      rotate_left 1
      ·have bp:i=aL.length:=by simp at g5;omega
       subst bp;rw[aar]at aF;rw[aal,abA,aaw]at S;rw[aF]at aQ;subst aQ;dsimp only at ir OY;refine aC (S.row 1 rfl) ?_;conv=>whnf
       replace S:=S.q2;replace S:=aj.qU S;replace S:=S.q3;replace S:=S.swap;replace S:=S.q2;replace S:=S.swap;replace S:=S.q2;have oG:=Jb (aL:=done) (now:=now+1) (keep:=keep) XD NC S;refine fp S ir rfl (bu oG (dM _)) fun v9 q9 F9 o9 S9=>?_;clear S oG ir o9;obtain⟨W9,T9,V9,_,_,_,rfl,c9,B6,pC,_⟩:=aj.iZ S9;conv=>whnf
       refine⟨[W9,T9,V9,i64 (now+1),i64 keep],(by kernel_rfl),rfl,(bM c9 (bM B6 (bM pC rfl))),.inl ⟨_,S9.row 5 rfl,rfl,?_⟩⟩;conv=>whnf
       intro b9 j7;replace S9:=S9.w5 j7;conv=>whnf
       exact⟨_,aS rfl rfl (S9.row 5 rfl) rfl rfl,_,_,_,rfl,mA S9 0⟩
      ·have nK:i<aL.length:=by simpa using g5
       have WW:=Pp _ (aac nK);have WX:=zn _ (aac nK);obtain⟨w,mw⟩:=dN _ (aac nK);have fF: ∀v',nT (now+1) aK aL[i]=some v'->gg (now+1) aK (aL.take (i+1))=some (done++[v']):=fun v' h=>by rw[dX nK,tG,aF];simp only[h]
       have M5:nT (now+1) aK aL[i]=none->gg (now+1) aK aL=none:=fun h=>by
        have h2:=zy (ys:=aL.drop (i+1)) (show gg (now+1) aK (aL.take (i+1))=none by rw[dX nK,tG,aF];simp only[h])
        rwa [List.take_append_drop]at h2
       have L8: ∀d:bg,zL.length=i->aL.length=(zL++d::(aL.drop (i+1)).map View.da).length:=fun d h=>by simp[h];omega
       have Zp:zL.length=i:=by
        have h1:=congrArg List.length XD;have h2:done.length=i:=(vA aF).trans (by simp;omega);simpa[h2]using h1
       have tF:=fun d=>L8 d Zp;rw[aaf nK,aao]at S;generalize Rc:(aL.drop (i+1)).map View.da=Z4 at S tF;generalize aL[i]=vw at S mw WW WX fF M5;obtain⟨⟨⟨au,n,aD,cells,a,b,aq,agg,col,ao⟩,l,r,ks⟩,bO,base,aZ⟩:=vw;dsimp only at WW mw;obtain⟨z1,z2,z3⟩:=WW;rcases aj.B5 S with⟨hx,_,_⟩|⟨zS,vs,Fs,dm,rfl,S1⟩
       ·simp at hx
       injection dm with vt _ FJ;subst vt;obtain⟨XA,xv,XB,FA,G,FB,rfl,WT,S2⟩:=aj.D6 S1.swap;clear S S1;obtain⟨C,K,DD,L,R,KS,B,P,H1,H2,H3,rfl,sL,cB,cP,S⟩:=aj.M3 S2;clear S2;have xj:XA.length=i:=by rw[WT,Zp]
       refine aC (S.row 6 rfl) ?_;conv=>whnf
       refine⟨_,S.row 5 rfl,⟨by omega,by omega⟩,?_⟩;conv=>whnf
       refine .inr ⟨_,_,_,S.row 5 rfl,ga xj,?_⟩;conv=>whnf
       obtain⟨Zk,hc,jH⟩:=BW hp Z0 ⟨by omega,hu3⟩ (bX.enc aK) 6 (by omega) au n aD cells a b aq agg col ao l r ks w mw _ _ _ _ _ (w9 _) S fun h' S'=>rfl;refine⟨_,hc,?_⟩;clear hc S;unfold gY at jH
       cases Cr:jg (.mk (.mk au n aD cells a b aq agg col ao) l r ks) aK with
       |none=>
        rw[Cr]at jH;rw[M5 (by simp only[nT,Cr])]at aQ;obtain⟨C2,K2,D2,L2,R2,so,w2,Dc,rfl,dR,CQ,S⟩:=jH;conv=>whnf
        intro k5 a5 CS qJ;replace S:=S.alloc CS qJ;conv=>whnf
        refine⟨(bL au n aD C2 a b K2 agg col D2 [L2,R2,so]),(by kernel_rfl),rfl,dR,.inl ⟨_,S.row 0 rfl,rfl,?_⟩⟩;conv=>whnf
        intro b7 I9;replace S:=S.w0 I9;conv=>whnf
        refine aC (S.row 10 rfl) ?_;conv=>whnf
        refine fp S Gi rfl rfl fun v9 q9 F9 o9 S9=>?_;clear S o9;obtain⟨W9,T9,V9,_,_,_,rfl,c9,B6,pC,_⟩:=aj.iZ S9;subst aQ;conv=>whnf
        refine⟨[W9,T9,V9,i64 now,i64 keep],(by kernel_rfl),rfl,(bM c9 (bM B6 (bM pC rfl))),.inl ⟨_,S9.row 10 rfl,rfl,?_⟩⟩;conv=>whnf
        intro b9 j7;replace S9:=S9.w10 j7;conv=>whnf
        exact⟨_,aS rfl rfl (S9.row 10 rfl) rfl rfl,_,_,_,rfl,mA S9 5⟩
       |some p2=>
        obtain⟨f2,out⟩:=p2;rw[Cr]at jH;obtain⟨v2,w2,d2,G4,H4,Dc,rfl,mU,S⟩:=jH;obtain⟨fP,Zl,hwb,vD⟩:=ud Z0 6 _ f2 _ out mw Cr;have zq:=tw 6 _ _ fP;have af6:=tp _ _ mU;obtain⟨⟨kd,nn,tt,cc,ta,tb,kk,ag,cl,qq⟩,ll,rr,fk⟩:=f2;obtain⟨C2,K2,D2,L2,R2,so,Ze,X1,X2,X3,RW,rfl,BX,y1,y2,y3,Sx⟩:=aj.uC mU S;have dR:(bL kd nn tt C2 ta tb K2 ag cl D2 [L2,R2,so]).all af.bQ=true:=pP y1 y2 y3 (bM (show XR _ ll L2 X1 from Sx.get 1 rfl).cell.2 (bM (show XR _ rr R2 X2 from Sx.get 2 rfl).cell.2 (bM (show cq _ (.s 22 RW) so X3 from Sx.get 3 rfl).cell.2 rfl)));clear Sx y1 y2 y3 BX;have cw:=(show cq _ (.s 2 (out.map Item.d)) w2 H4 from S.get 1 rfl).cell;have sw:cq _ (.s 2 (out.map Item.d)) w2 H4:=S.get 1 rfl;have hP:=CU (show cq _ (.a 2 (aZ.map dg.d)) P H3 from S.get 3 rfl);conv=>whnf
        intro k5 a5 CS qJ;replace S:=S.alloc CS qJ;conv=>whnf
        refine⟨(bL kd nn tt C2 ta tb K2 ag cl D2 [L2,R2,so]),(by kernel_rfl),rfl,dR,.inl ⟨_,S.row 0 rfl,rfl,?_⟩⟩;conv=>whnf
        intro b7 I9;replace S:=S.w0 I9;refine aC (S.row 8 rfl) ?_;conv=>whnf
        refine⟨_,S.row 7 rfl,⟨by omega,by omega⟩,?_⟩;conv=>whnf
        refine .inr ⟨_,_,_,S.row 7 rfl,ga xj,?_⟩;refine aC (S.row 8 rfl) ?_;conv=>whnf
        replace S:=S.q4;replace S:=S.is (c':=.dL (.s 2 (aZ.map dg.d)) P H3) (cq.IV (S.get 0 rfl)).1 rfl;have WY:=wQ (now+1) aZ base z2 (dC z1).2;have hz7:=gx WY.2 (dC Zl).2;have uj:ij (dt (mP (now+1) base aZ) out):=⟨by have:=WY.1;have:=hz7.1;have:=(dA z1).1;have:=(dA Zl).1;simp[dB];omega,hz7.2⟩;clear WY hz7;refine Rn hp (more:=out) (.inr rfl) z1 z2 (by omega) Zl S (fun h' S'=>aI.iT (S'.get 4 rfl)) (fun h' S'=>aI.iT (S'.get 3 rfl)) fun D F5 q4 S4=>?_;clear S;have S:=S4;clear S4;obtain⟨z,hz⟩: ∃z,dt (mP (now+1) base aZ) out=z:=⟨_,rfl⟩;rw[hz]at S uj;have hkz:nT (now+1) aK ⟨.mk (.mk au n aD cells a b aq agg col ao) l r ks,bO,base,aZ⟩=if dS z then some ⟨.mk (.mk kd nn tt cc ta tb kk ag cl qq) ll rr fk,bO,base,if out=[]then aZ else aZ++[⟨now+1,out⟩]⟩else none:=by rw[<-hz];simp only[nT,Cr]
        rw[hkz]at fF M5;have oD:sv 2 q4 (z.map Item.d) D F5:=S.get 0 rfl;conv=>whnf
        refine⟨_,(iU hp z uj).here (bu (aI.iT oD.1) (dM _)) rfl rfl,?_⟩;clear oD;conv=>whnf
        refine ae (fun g6=>?_) (fun g6=>?_)
        rotate_left 1
        ·rw[M5 (by rw[if_neg (by simpa using g6)])]at aQ;refine aC (S.row 13 rfl) ?_;conv=>whnf
         refine fp S Gi rfl rfl fun v9 q9 F9 o9 S9=>?_;clear S o9;obtain⟨W9,T9,V9,_,_,_,rfl,c9,B6,pC,_⟩:=aj.iZ S9;subst aQ;conv=>whnf
         refine⟨[W9,T9,V9,i64 now,i64 keep],(by kernel_rfl),rfl,(bM c9 (bM B6 (bM pC rfl))),.inl ⟨_,S9.row 13 rfl,rfl,?_⟩⟩;conv=>whnf
         intro b9 j7;replace S9:=S9.w13 j7;conv=>whnf
         exact⟨_,aS rfl rfl (S9.row 13 rfl) rfl rfl,_,_,_,rfl,mA S9 5⟩
        ·have fF:=fF _ (if_pos g6);conv=>whnf
         replace S:=S.drop 0;dsimp only[List.eraseIdx]at S;replace S:=S.is (c':=.jA 2 (aZ.map dg.d) P H3) ⟨S.get 0 rfl,by rcases hP with⟨h,_⟩|⟨j,h⟩;exact .inl h;exact .inr ⟨j,by simpa using h⟩⟩ rfl;refine aC (S.row 8 rfl) ?_;refine aC (S.row 1 rfl) ?_;conv=>whnf
         refine⟨_,S.row 7 rfl,⟨by omega,by omega⟩,?_⟩;conv=>whnf
         refine⟨bL kd nn tt C2 ta tb K2 ag cl D2 [L2,R2,so],(by kernel_rfl),rfl,dR,.inr ⟨_,_,_,S.row 7 rfl,ga xj,?_⟩⟩;conv=>whnf
         intro c1 se;replace S:=S.w7 se;rw[aaK,aaa,mu xj]at S;conv=>whnf
         rcases aco sw with⟨hw,rfl⟩|⟨idw,rfl⟩
         ·rw[if_pos rfl]at fF;rcases hw with rfl|rfl
          all_goals
           conv=>whnf
           replace S:=(S.drop 1).drop 2;dsimp only[List.eraseIdx]at S;replace S:=aj.qU S;replace S:=S.q2;replace S:=S.q2;replace S:=aj.CT (aj.Jc (bO:=bO) S);replace S:=aj.r0 (n:=aL.length) S.swap (tF _)
           exact⟨mi-1,by omega,i+1,_,zL++[uE d2 bO base aZ],done++[⟨.mk (.mk kd nn tt cc ta tb kk ag cl qq) ll rr fk,bO,base,aZ⟩],by omega,aP i xE,fF,by rw[aaD,aaD,XD];congr 1;simp only[aao,abA,qV mU],fun d hd=>by
            rcases aaS.1 hd with hd|hd
            ·exact NC d hd
            ·simp at hd;subst hd;exact qW _ _ _ (by omega),by rw[Rc,abr];exact S⟩
         ·conv=>whnf
          refine ae (fun g7=>?_) (fun g7=>?_)
          rotate_left 1
          ·have ho:out=[]:=by simpa using g7
           subst ho;rw[if_pos rfl]at fF;conv=>whnf
           replace S:=(S.drop 1).drop 2;dsimp only[List.eraseIdx]at S;replace S:=aj.qU S;replace S:=S.q2;replace S:=S.q2;replace S:=aj.CT (aj.Jc (bO:=bO) S);replace S:=aj.r0 (n:=aL.length) S.swap (tF _)
           exact⟨mi-1,by omega,i+1,_,zL++[uE d2 bO base aZ],done++[⟨.mk (.mk kd nn tt cc ta tb kk ag cl qq) ll rr fk,bO,base,aZ⟩],by omega,aP i xE,fF,by rw[aaD,aaD,XD];congr 1;simp only[aao,abA,qV mU],fun d hd=>by
            rcases aaS.1 hd with hd|hd
            ·exact NC d hd
            ·simp at hd;subst hd;exact qW _ _ _ (by omega),by rw[Rc,abr];exact S⟩
          ·have ho:out≠[]:=fun h=>by subst h;simp at g7
           rw[if_neg ho]at fF;refine aC (S.row 8 rfl) ?_;refine aC (S.row 8 rfl) ?_;conv=>whnf
           refine⟨_,S.row 7 rfl,⟨by omega,by omega⟩,?_⟩;conv=>whnf
           refine .inr ⟨_,_,_,S.row 7 rfl,ga xj,?_⟩;refine gH (v:=P) (by rfl) ?_;refine aC (S.row 8 rfl) ?_;conv=>whnf
           have acr:aZ.length+1<=bB:=by simp[bB];omega
           replace S:=S.q3;replace S:=MX (dP:=now+1) S;replace S:=S.swap;intro pI pJ dT dU;replace S:=S.alloc dT dU;conv=>whnf
           refine⟨trivial,?_⟩;conv=>whnf
           refine⟨[_],bT (S.row 0 rfl),fi rfl (bM rfl (bM cw.2 rfl)),?_⟩;replace S:=S.drop 0;dsimp only[List.eraseIdx]at S;refine lp (sz:=2) (d:=dg.d ⟨now+1,out⟩) S (by simpa using acr) fun k6 h6 F6 S2=>?_;clear S;have S:=S2;clear S2;conv=>whnf
           refine⟨?_,?_⟩
           ·repeat
             ((conv=>whnf);first|trivial|refine⟨by first|((conv=>whnf);exact⟨_,rfl,S.row 6 rfl⟩)|((conv=>whnf);exact cm rfl (S.row 7 rfl) rfl rfl),?_⟩)
           conv=>whnf
           refine⟨_,S.row 6 rfl,⟨by omega,by omega⟩,?_⟩;conv=>whnf
           refine⟨_,rfl,rfl,rfl,.inr ⟨_,_,_,S.row 6 rfl,ga xj,?_⟩⟩;conv=>whnf
           intro c2 B7;replace S:=S.w6 B7;rw[aaK,aaa,mu xj]at S;conv=>whnf
           replace S:=S.drop 1;dsimp only[List.eraseIdx]at S;rw[show aZ.map dg.d++[dg.d ⟨now+1,out⟩]=(aZ++[(⟨now+1,out⟩:dg)]).map dg.d by simp]at S;replace S:=aj.qU S;replace S:=S.q2;replace S:=S.q2;replace S:=aj.CT (aj.Jc (bO:=bO) S);replace S:=aj.r0 (n:=aL.length) S.swap (tF _)
           exact⟨mi-1,by omega,i+1,_,zL++[uE d2 bO base (aZ++[⟨now+1,out⟩])],done++[⟨.mk (.mk kd nn tt cc ta tb kk ag cl qq) ll rr fk,bO,base,aZ++[⟨now+1,out⟩]⟩],by omega,aP i xE,fF,by rw[aaD,aaD,XD];congr 1;simp only[aao,abA,qV mU],fun d hd=>by
            rcases aaS.1 hd with hd|hd
            ·exact NC d hd
            ·simp at hd;subst hd;exact qW _ _ _ (by omega),by rw[Rc,abr];exact S⟩
    ·rw[if_pos g2]at aQ;generalize jR aH aK=cc at g2 aQ⊢;conv=>whnf
     refine ae (fun g3=>?_) (fun g3=>?_)
     ·refine aC (S.row 4 rfl) ?_;conv=>whnf
      refine fp S Gi rfl rfl fun v9 q9 F9 o9 S9=>?_;clear S o9;obtain⟨W9,T9,V9,_,_,_,rfl,c9,B6,pC,_⟩:=aj.iZ S9;subst aQ;conv=>whnf
      refine⟨[W9,T9,V9,i64 now,i64 keep],(by kernel_rfl),rfl,(bM c9 (bM B6 (bM pC rfl))),.inl ⟨_,S9.row 4 rfl,rfl,?_⟩⟩;conv=>whnf
      intro b9 j7;replace S9:=S9.w4 j7;conv=>whnf
      exact⟨_,aS rfl rfl (S9.row 4 rfl) rfl rfl,_,_,_,rfl,mA S9 _⟩
     ·exact absurd (by simpa using g3) g2
end Go.Proofs.YtfepbikckfehlaaGreat

/- What is turned of a store's tables: the reference's. -/
import Derived.Test.YtfepbikckfehlaaGreatGH38
set_option linter.unusedVariables false
set_option linter.unusedSimpArgs false
set_option maxHeartbeats 4000000
namespace Go.Proofs.YtfepbikckfehlaaGreat
open Go Go.Am
variable{pr:bL}(hp:bV pr)
set_option maxRecDepth 100000
def lG:List Int->List (List Item)->Bool
 |w::ws,t::ts=>iv t w&&lG ws ts
 |_,_=>true
def oW(ws:List Int)(aF aH:List (List Item)):Int:=if aH.length>aF.length then 1 else if lG ws aH then 0 else 2
theorem JL{ws:List Int}{ts:List (List Item)}{j:Nat}(h1:j<ws.length)(h2:j<ts.length):lG (ws.drop j) (ts.drop j)=(iv ts[j] ws[j]&&lG (ws.drop (j+1)) (ts.drop (j+1))):=by
 rw[ar h1,ar h2,lG]
theorem Hs{ws:List Int}{ts:List (List Item)}:lG (ws.drop ts.length) (ts.drop ts.length)=true:=by
 rw[aL];cases ws.drop ts.length<;>rfl
theorem M3(hp:bV pr)(s:bJ)(aH:List (List Item))(hl:s.aF.length<=s.bc.length)(hw:s.bc.length<=1000)(P3: ∀z∈aH,gi z)(Kv:aH.length<=1000):dm pr 118 [s.enc,bM.enc aH] (i64 (oW s.bc s.aF aH)):=by
 have e1:=fun(z:List Item)(w:Int)(h:z∈aH)=>Aj hp z w (P3 z h);obtain⟨bc,aF,aK,now,keep⟩:=s;dsimp only at hl hw⊢;have aN:oW bc aF aH=oW bc aF aH:=rfl;conv at aN=>rhs;unfold oW
 generalize oW bc aF aH=res at aN⊢;refine xC hp rfl rfl ?_;have S:ah [] []:=ah.nil [];conv=>whnf
 intro k1 a1 dw dC;replace S:=S.alloc dw dC;conv=>whnf
 refine aI (S.row 0 rfl) ?_;conv=>whnf
 refine ae (fun g0=>?_) (fun g0=>?_)
 ·rw[if_pos (by simpa using g0)]at aN;subst aN;conv=>whnf
  exact dO rfl
 ·have eH:aH.length<=aF.length:=by simpa using g0
  rw[if_neg (by omega)]at aN;conv=>whnf
  refine dh (fun m tm hp=>∃(j:Nat),j+m=aH.length/\tm 5=i64 (j:Nat)/\ah hp [.row k1 (.box (bJ.enc ⟨bc,aF,aK,now,keep⟩))]/\(lG bc aH=lG (bc.drop j) (aH.drop j))) (fun m tm hq bz hI=>?_) (aH.length) ⟨0,by simp,rfl,S,(rfl)⟩;obtain⟨j,hj,e5,S2,aD⟩:=hI;have k1:=bz 1 (by kernel_rfl);conv at k1=>rhs;whnf
  have k2:=bz 2 (by kernel_rfl);conv at k2=>rhs;whnf
  refine⟨[(1,_),(2,_),(5,_)],⟨k1,k2,e5,trivial⟩,?_⟩;clear bz k1 k2 e5;replace S:=S2;clear S2;conv=>whnf
  have fw:j<4611686018427387904:=by omega
  refine ae (fun h1=>?_) (fun h1=>?_)
  ·have bq:j<aH.length:=by simpa using h1
   have cx:(aH.map aE.enc)[((j:Nat):Int).toNat]?=some (aE.enc aH[j]):=by rw[aq];simp[bq]
   have hjw:j<bc.length:=by omega
   have Wl:(bc.map i64)[((j:Nat):Int).toNat]?=some (i64 bc[j]):=by rw[aq];simp[hjw]
   rw[JL hjw bq]at aD;have hz:=e1 _ bc[j] (ay bq);generalize aH[j]=z at cx aD hz;generalize bc[j]=w at Wl aD hz;conv=>whnf
   refine⟨_,cx,by omega,rfl,?_⟩;conv=>whnf
   refine aI (S.row 0 rfl) ?_;conv=>whnf
   refine⟨_,Wl,by omega,rfl,?_⟩;conv=>whnf
   refine⟨_,hz _,?_⟩;conv=>whnf
   refine ae (fun g1=>?_) (fun g1=>?_)
   ·rw[g1,aX]at aD;conv=>whnf
    exact⟨m-1,by omega,j+1,by omega,aQ j fw,S,aD⟩
   ·rw[g1,Bool.false_and]at aD;rw[aD,if_neg (by simp)]at aN;subst aN;conv=>whnf
    exact dO rfl
  ·have bq:j=aH.length:=by
    have: ¬j<aH.length:=by simpa using h1
    omega
   subst bq;rw[Hs]at aD;rw[aD,if_pos rfl]at aN;subst aN;conv=>whnf
   exact dO rfl
def jy:List (List Item)->List (List Item)->List (List Item)
 |t::ts,u::us=>ct t u::jy ts us
 |t::ts,[]=>t::jy ts []
 | [],_=>[]
theorem Se{aF aH:List (List Item)}{j:Nat}(h:j<aF.length):(∀h2:j<aH.length,jy (aF.drop j) (aH.drop j)=ct aF[j] aH[j]::jy (aF.drop (j+1)) (aH.drop (j+1)))/\(¬j<aH.length->jy (aF.drop j) (aH.drop j)=aF[j]::jy (aF.drop (j+1)) (aH.drop (j+1))):=by
 refine⟨fun h2=>?_,fun h2=>?_⟩
 ·rw[ar h,ar h2,jy]
 ·rw[ar h,(List.drop_eq_nil_iff.2 (by omega):aH.drop j=[]),(List.drop_eq_nil_iff.2 (by omega):aH.drop (j+1)=[]),jy]
theorem Lg{h:aC}{z:List Item}{id n:Nat}{F:List Nat}(ho:bP h (aE.d z) (.own id 0 n) F):n=z.length/\ ∃vs,h[id]?=some (.arr 2 vs)/\ ∀(i:Nat) x,z[i]?=some x-> ∃P,vs[i]?=some (.agg [P,i64 x.w]):=by
 unfold aE.d at ho;simp only[bP]at ho;rcases ho with⟨_,_,h1|h1⟩|⟨yu,vs,Fs,he,h5,h6,_⟩
 ·cases h1
 ·cases h1
 ·injection he with e1 _ e3;subst e1;refine⟨by rw[e3];simp,vs,h5,fun i x hi=>?_⟩;obtain⟨v,G,g1,g2⟩:=bZ.Lc h6 i x.d (by simp[hi]);obtain⟨P,rfl,_⟩:=Item.open g2;exact⟨P,g1⟩
theorem AH: ∀{aF aH:List (List Item)},(∀z∈aF,c7 z=true)->(∀z∈aH,c7 z=true)-> ∀z∈jy aF aH,gi z
 | [],_,_,_,z,h=>by simp[jy]at h
 |t::ts,[],h1,h2,z,h=>by
  simp only[jy]at h;rcases aW.1 h with rfl|h
  ·exact cF (h1 _ (by simp))
  ·exact AH (fun y hy=>h1 y (by simp[hy])) h2 z h
 |t::ts,u::us,h1,h2,z,h=>by
  simp only[jy]at h;rcases aW.1 h with rfl|h
  ·have a:=cE (h1 t (by simp));have b:=cE (h2 u (by simp));have c:=fp (a:=t) (b:=u) (cF (h1 t (by simp))).2 (cF (h2 u (by simp))).2;exact⟨by simp[cM];omega,c.2⟩
  ·exact AH (fun y hy=>h1 y (by simp[hy])) (fun y hy=>h2 y (by simp[hy])) z h
theorem AI: ∀(aF aH:List (List Item)),(jy aF aH).length=aF.length
 | [],_=>by simp[jy]
 |t::ts,[]=>by simp only[jy,aJ,AI ts]
 |t::ts,u::us=>by simp only[jy,aJ,AI ts]
def x5(z:List Item):Bool:=z.any fun x=>decide (x.w<0)
def iR(aF aH:List (List Item)):Int:=if(jy aF aH).any x5 then 3 else if(jy aF aH).all c7 then 0 else 5
theorem JM(hp:bV pr){bc:List Int}{aF aH:List (List Item)}{now keep:Int}{W T V:af}{F:List Nat}{h:aC}{Q:List Chunk}(Kv:aF.length<=1000)(P3: ∀z∈aF,c7 z=true)(hul:aH.length<=1000)(Yl: ∀z∈aH,c7 z=true)(S:ah h (.cU (.a 1 (aF.map aE.d)) T F::Q)):
  ∃r,bN (du pr) (call (du pr)) 119 [.agg [W,T,V,i64 now,i64 keep],bM.enc aH] h=some r/\
   ((iR aF aH=0/\ ∃v F' h',r= .ret (.dX [v,i64 0]) h'/\ah h' (.iA 1 ((jy aF aH).map aE.d) v F'::Q))∨(iR aF aH≠0/\ ∃h',r= .ret (.dX [.nil,i64 (iR aF aH)]) h'/\ah h' Q)):=by
    rw[mh rfl];refine cS (hp.out _ rfl) ?_;conv=>whnf
    intro k1 a1 dw dC;replace S:=S.alloc dw dC;conv=>whnf
    rcases ah.AE (S.swap)with⟨h0,rfl,S1⟩|⟨M4,vT,FT,rfl,rfl,S1⟩
    ·have ht0:aF=[]:=by simpa using h0
     subst ht0;replace S:=S1;clear S1;refine dh (fun m tm hp=>tm 6= .nil/\tm 7=i64 0/\hp=a1) (fun mi Te hq bz hI=>?_) 0 ⟨rfl,rfl,rfl⟩;obtain⟨e6,e7,rfl⟩:=hI;have e2:=bz 2 (by kernel_rfl);conv at e2=>rhs;whnf
     refine⟨[(2,_),(6,_),(7,_)],⟨e2,e6,e7,trivial⟩,?_⟩;clear bz e2 e6 e7;conv=>whnf
     refine aI (S.row 0 rfl) ?_;conv=>whnf
     refine dh (fun m tm hp=>tm 10=i64 0/\hp=hq) (fun m tm pg bz hI=>?_) 0 ⟨rfl,rfl⟩;obtain⟨qX,rfl⟩:=hI;have e6:=bz 6 (by kernel_rfl);conv at e6=>rhs;whnf
     refine⟨[(6,_),(10,_)],⟨e6,qX,trivial⟩,?_⟩;clear bz e6 qX;conv=>whnf
     exact⟨_,rfl,.inl ⟨rfl,_,_,_,rfl,ah.j7 1 (S.drop 0)⟩⟩
    replace S:=S1;clear S1;have Q5:(aF.map aE.d).length=aF.length:=by simp
    rw[Q5]at S⊢;clear Q5;replace S:=ah.j7 1 S.swap
    refine dh (fun m tm hp=>∃(i:Nat)(O:af)(FO FR:List Nat)(vd vr:List af)(outs:List (List Item)),i+m=aF.length/\tm 6=O/\tm 7=i64 (i:Nat)/\vd.length=i/\outs.length=i/\jy aF aH=outs++jy (aF.drop i) (aH.drop i)/\outs.any x5=false/\
     ah hp (.iA 1 (outs.map aE.d) O FO:: .dy ((aF.drop i).map aE.d) vr FR:: .row M4 (.arr 1 (vd++vr)):: .row k1 (.box (.agg [W,.own M4 0 aF.length,V,i64 now,i64 keep]))::Q)) (fun mi Te hq bz hI=>?_) aF.length ⟨0,.nil,[],FT,[],vT,[],by simp,rfl,rfl,rfl,rfl,rfl,rfl,S⟩
    clear S;obtain⟨i,O,FO,FR,vd,vr,outs,hi,e6,e7,Sf,MX,yh,JN,S⟩:=hI;have e1:=bz 1 (by kernel_rfl);conv at e1=>rhs;whnf
    have e2:=bz 2 (by kernel_rfl);conv at e2=>rhs;whnf
    refine⟨[(1,_),(2,_),(6,_),(7,_)],⟨e1,e2,e6,e7,trivial⟩,?_⟩;clear bz e1 e2 e6 e7;have vQ:i<4611686018427387904:=by omega
    conv=>whnf
    refine aI (S.row 3 rfl) ?_;conv=>whnf
    refine ae (fun g1=>?_) (fun g1=>?_)
    ·have mg:i<aF.length:=by simpa using g1
     obtain⟨Dc,eM⟩:=Se (aH:=aH) mg;have M5:=P3 _ (ay mg);rw[ar mg,aM]at S;generalize aF[i]=z at S Dc eM M5;obtain⟨zv,vr2,G,H,rfl,rfl,S2⟩:=ah.tD S.swap;clear S;have S:=S2;clear S2;rw[show vd++zv::vr2=(vd++[zv])++vr2 by simp]at S;have hcz:=(show bP hq (.s 2 (z.map Item.d)) zv G from S.get 0 rfl).cell;have UP:ff (du pr).P 30 zv 0=some zv:=by rcases(show bP hq (.s 2 (z.map Item.d)) zv G from S.get 0 rfl).slice with rfl|rfl|⟨_,_,rfl⟩<;>rfl
     have je:Am.snap hq zv=some (aE.enc z):=aE.fU (show bP hq (aE.d z) zv G from S.get 0 rfl);conv=>whnf
     refine aI (S.row 4 rfl) ?_;conv=>whnf
     refine⟨_,S.row 3 rfl,⟨by omega,by omega⟩,?_⟩;conv=>whnf
     refine .inr ⟨_,_,_,S.row 3 rfl,(by rw[List.append_assoc];exact fa Sf),eV (v:=zv) UP ?_⟩;conv=>whnf
     refine ae (fun g2=>?_) (fun g2=>?_)
     ·have hiu:i<aH.length:=by simpa using g2
      have cY:=Dc hiu;have cx:(aH.map aE.enc)[((i:Nat):Int).toNat]?=some (aE.enc aH[i]):=by rw[aq];simp[hiu]
      have Xt:=Yl _ (ay hiu);have Pt:=kH hp z aH[i] (cF M5) (cF Xt) (by have:=(cE M5).1;have:=(cE Xt).1;simp[cM];omega);generalize aH[i]=u at cY cx Pt Xt;conv=>whnf
      refine⟨_,cx,by omega,rfl,?_⟩;conv=>whnf
      refine cI S Pt rfl (bm je (bm rfl (dc _))) fun zv2 zn G2 S3=>?_;replace S:=(ah.dv S3).drop 1;dsimp only[List.eraseIdx]at S;clear S3;have Bd:(ct z u).length<4611686018427387904:=by have:=fp (a:=z) (b:=u) (cF M5).2 (cF Xt).2;have:=(cE M5).1;have:=(cE Xt).1;omega
      conv=>whnf
      rcases bP.ZX (show bP zn (aE.d (ct z u)) zv2 _ from S.get 0 rfl) (aE.eD _)with⟨rfl,Gq⟩|rfl|⟨QI,rfl⟩
      ·have tL:(ct z u)=[]:=by simpa using Gq
       refine dh (fun m tm hp=>tm 9=i64 0/\hp=zn) (fun m tm pg bz hI=>?_) 0 ⟨rfl,rfl⟩;obtain⟨e9,rfl⟩:=hI;have e1:=bz 1 (by kernel_rfl);conv at e1=>rhs;whnf
       have e2:=bz 2 (by kernel_rfl);conv at e2=>rhs;whnf
       have e6:=bz 6 (by kernel_rfl);conv at e6=>rhs;whnf
       have e7:=bz 7 (by kernel_rfl);conv at e7=>rhs;whnf
       have e8:=bz 8 (by kernel_rfl);conv at e8=>rhs;whnf
       refine⟨[(1,_),(2,_),(6,_),(7,_),(8,_),(9,_)],⟨e1,e2,e6,e7,e8,e9,trivial⟩,?_⟩;clear bz e1 e2 e6 e7 e8 e9;conv=>whnf
       replace S:=S.q2;intro nM nN de dg;replace S:=S.alloc de dg;conv=>whnf
       refine⟨trivial,?_⟩;conv=>whnf
       refine⟨[_],bG (S.row 0 rfl),cQ rfl rfl,?_⟩;replace S:=S.drop 0;dsimp only[List.eraseIdx]at S;refine jM (sz:=1) (d:=aE.d (ct z u)) S (by simp[br];omega) fun k6 h6 F6 S2=>?_;clear S;have S:=S2;clear S2;conv=>whnf
       exact⟨mi-1,by omega,i+1,_,_,_,vd++[zv],_,outs++[(ct z u)],by omega,rfl,aQ i vQ,by simp[Sf],by simp[MX],by rw[yh,cY,List.append_assoc];rfl,by rw[List.any_append,JN,tL];rfl,by rw[bd];exact S⟩
      ·have Gq:(ct z u)=[]:=by
        have:=show bP zn (aE.d (ct z u)) _ _ from S.get 0 rfl
        unfold aE.d at this;simp only[bP]at this;rcases this with⟨h1,_⟩|⟨_,_,_,h1,_⟩
        ·simpa using h1
        ·cases h1
       rw[Gq]at S cY⊢;have tL:([]:List Item)=[]:=rfl;refine dh (fun m tm hp=>tm 9=i64 0/\hp=zn) (fun m tm pg bz hI=>?_) 0 ⟨rfl,rfl⟩;obtain⟨e9,rfl⟩:=hI;have e1:=bz 1 (by kernel_rfl);conv at e1=>rhs;whnf
       have e2:=bz 2 (by kernel_rfl);conv at e2=>rhs;whnf
       have e6:=bz 6 (by kernel_rfl);conv at e6=>rhs;whnf
       have e7:=bz 7 (by kernel_rfl);conv at e7=>rhs;whnf
       have e8:=bz 8 (by kernel_rfl);conv at e8=>rhs;whnf
       refine⟨[(1,_),(2,_),(6,_),(7,_),(8,_),(9,_)],⟨e1,e2,e6,e7,e8,e9,trivial⟩,?_⟩;clear bz e1 e2 e6 e7 e8 e9;conv=>whnf
       replace S:=S.q2;intro nM nN de dg;replace S:=S.alloc de dg;conv=>whnf
       refine⟨trivial,?_⟩;conv=>whnf
       refine⟨[_],bG (S.row 0 rfl),cQ rfl rfl,?_⟩;replace S:=S.drop 0;dsimp only[List.eraseIdx]at S;refine jM (sz:=1) (d:=aE.d ([]:List Item)) S (by simp[br];omega) fun k6 h6 F6 S2=>?_;clear S;have S:=S2;clear S2;conv=>whnf
       exact⟨mi-1,by omega,i+1,_,_,_,vd++[zv],_,outs++[([]:List Item)],by omega,rfl,aQ i vQ,by simp[Sf],by simp[MX],by rw[yh,cY,List.append_assoc];rfl,by rw[List.any_append,JN,tL];rfl,by rw[bd];exact S⟩
      ·obtain⟨hn9,vz,dT,ji⟩:=Lg (S.get 0 rfl);refine dh (fun m tm hp=>∃j:Nat,j+m=(ct z u).length/\tm 9=i64 (j:Nat)/\hp=zn/\((ct z u).take j).any (fun x=>decide (x.w<0))=false) (fun m tm pg bz hI=>?_) (ct z u).length ⟨0,by simp,rfl,rfl,rfl⟩;obtain⟨j,Nw,e9,rfl,N4⟩:=hI;have e1:=bz 1 (by kernel_rfl);conv at e1=>rhs;whnf
       have e2:=bz 2 (by kernel_rfl);conv at e2=>rhs;whnf
       have e6:=bz 6 (by kernel_rfl);conv at e6=>rhs;whnf
       have e7:=bz 7 (by kernel_rfl);conv at e7=>rhs;whnf
       have e8:=bz 8 (by kernel_rfl);conv at e8=>rhs;whnf
       refine⟨[(1,_),(2,_),(6,_),(7,_),(8,_),(9,_)],⟨e1,e2,e6,e7,e8,e9,trivial⟩,?_⟩;clear bz e1 e2 e6 e7 e8 e9;have fw:j<4611686018427387904:=by have:=Bd;omega
       conv=>whnf
       refine ae (fun g5=>?_) (fun g5=>?_)
       ·have bq:j<(ct z u).length:=by simpa using g5
        obtain⟨P,Xu⟩:=ji j _ (au bq);have tW:((ct z u).take (j+1)).any (fun x=>decide (x.w<0))=(((ct z u).take j).any (fun x=>decide (x.w<0))||decide (((ct z u)[j]).w<0)):=by rw[dn bq,List.any_append];simp
        have fC:decide (((ct z u)[j]).w<0)=true->x5 (ct z u)=true:=fun h=>List.any_eq_true.2 ⟨_,ay bq,h⟩;generalize(ct z u)[j]=x at Xu tW fC;conv=>whnf
        refine⟨_,dT,⟨by omega,by omega⟩,?_⟩;conv=>whnf
        refine .inr ⟨_,_,_,dT,(by rw[bg,aq];exact Xu),?_⟩;conv=>whnf
        refine ae (fun g6=>?_) (fun g6=>?_)
        ·have qy:iR aF aH=3:=by
          unfold iR;rw[if_pos];rw[yh,cY,List.any_append,List.any_cons,fC g6];simp
         rw[qy];conv=>whnf
         exact⟨_,rfl,.inr ⟨by decide,_,rfl,S.my 5⟩⟩
        ·conv=>whnf
         exact⟨m-1,by omega,j+1,by omega,aQ j fw,rfl,by rw[tW,N4,g6];rfl⟩
       ·have bq:j=(ct z u).length:=by simp at g5;omega
        subst bq;rw[aS]at N4;have U3:x5 (ct z u)=false:=N4;conv=>whnf
        replace S:=S.q2;intro nM nN de dg;replace S:=S.alloc de dg;conv=>whnf
        refine⟨trivial,?_⟩;conv=>whnf
        refine⟨[_],bG (S.row 0 rfl),cQ rfl rfl,?_⟩;replace S:=S.drop 0;dsimp only[List.eraseIdx]at S;refine jM (sz:=1) (d:=aE.d (ct z u)) S (by simp[br];omega) fun k6 h6 F6 S2=>?_;clear S;have S:=S2;clear S2;conv=>whnf
        exact⟨mi-1,by omega,i+1,_,_,_,vd++[zv],_,outs++[(ct z u)],by omega,rfl,aQ i vQ,by simp[Sf],by simp[MX],by rw[yh,cY,List.append_assoc];rfl,by rw[List.any_append,JN];simp only[List.any_cons,List.any_nil,U3];rfl,by rw[bd];exact S⟩
     ·have cY:=eM (by simpa using g2);have Bd:z.length<4611686018427387904:=by have:=(cE M5).1;omega
      clear UP je hcz;conv=>whnf
      rcases bP.ZX (show bP hq (aE.d (z)) zv _ from S.get 0 rfl) (aE.eD _)with⟨rfl,Gq⟩|rfl|⟨QI,rfl⟩
      ·have tL:(z)=[]:=by simpa using Gq
       refine dh (fun m tm hp=>tm 9=i64 0/\hp=hq) (fun m tm pg bz hI=>?_) 0 ⟨rfl,rfl⟩;obtain⟨e9,rfl⟩:=hI;have e1:=bz 1 (by kernel_rfl);conv at e1=>rhs;whnf
       have e2:=bz 2 (by kernel_rfl);conv at e2=>rhs;whnf
       have e6:=bz 6 (by kernel_rfl);conv at e6=>rhs;whnf
       have e7:=bz 7 (by kernel_rfl);conv at e7=>rhs;whnf
       have e8:=bz 8 (by kernel_rfl);conv at e8=>rhs;whnf
       refine⟨[(1,_),(2,_),(6,_),(7,_),(8,_),(9,_)],⟨e1,e2,e6,e7,e8,e9,trivial⟩,?_⟩;clear bz e1 e2 e6 e7 e8 e9;conv=>whnf
       replace S:=S.q2;intro nM nN de dg;replace S:=S.alloc de dg;conv=>whnf
       refine⟨trivial,?_⟩;conv=>whnf
       refine⟨[_],bG (S.row 0 rfl),cQ rfl rfl,?_⟩;replace S:=S.drop 0;dsimp only[List.eraseIdx]at S;refine jM (sz:=1) (d:=aE.d (z)) S (by simp[br];omega) fun k6 h6 F6 S2=>?_;clear S;have S:=S2;clear S2;conv=>whnf
       exact⟨mi-1,by omega,i+1,_,_,_,vd++[.nil],_,outs++[(z)],by omega,rfl,aQ i vQ,by simp[Sf],by simp[MX],by rw[yh,cY,List.append_assoc];rfl,by rw[List.any_append,JN,tL];rfl,by rw[bd];exact S⟩
      ·have Gq:(z)=[]:=by
        have:=show bP hq (aE.d (z)) _ _ from S.get 0 rfl
        unfold aE.d at this;simp only[bP]at this;rcases this with⟨h1,_⟩|⟨_,_,_,h1,_⟩
        ·simpa using h1
        ·cases h1
       rw[Gq]at S cY⊢;have tL:([]:List Item)=[]:=rfl;refine dh (fun m tm hp=>tm 9=i64 0/\hp=hq) (fun m tm pg bz hI=>?_) 0 ⟨rfl,rfl⟩;obtain⟨e9,rfl⟩:=hI;have e1:=bz 1 (by kernel_rfl);conv at e1=>rhs;whnf
       have e2:=bz 2 (by kernel_rfl);conv at e2=>rhs;whnf
       have e6:=bz 6 (by kernel_rfl);conv at e6=>rhs;whnf
       have e7:=bz 7 (by kernel_rfl);conv at e7=>rhs;whnf
       have e8:=bz 8 (by kernel_rfl);conv at e8=>rhs;whnf
       refine⟨[(1,_),(2,_),(6,_),(7,_),(8,_),(9,_)],⟨e1,e2,e6,e7,e8,e9,trivial⟩,?_⟩;clear bz e1 e2 e6 e7 e8 e9;conv=>whnf
       replace S:=S.q2;intro nM nN de dg;replace S:=S.alloc de dg;conv=>whnf
       refine⟨trivial,?_⟩;conv=>whnf
       refine⟨[_],bG (S.row 0 rfl),cQ rfl rfl,?_⟩;replace S:=S.drop 0;dsimp only[List.eraseIdx]at S;refine jM (sz:=1) (d:=aE.d ([]:List Item)) S (by simp[br];omega) fun k6 h6 F6 S2=>?_;clear S;have S:=S2;clear S2;conv=>whnf
       exact⟨mi-1,by omega,i+1,_,_,_,vd++[_],_,outs++[([]:List Item)],by omega,rfl,aQ i vQ,by simp[Sf],by simp[MX],by rw[yh,cY,List.append_assoc];rfl,by rw[List.any_append,JN,tL];rfl,by rw[bd];exact S⟩
      ·obtain⟨hn9,vz,dT,ji⟩:=Lg (S.get 0 rfl);refine dh (fun m tm hp=>∃j:Nat,j+m=(z).length/\tm 9=i64 (j:Nat)/\hp=hq/\((z).take j).any (fun x=>decide (x.w<0))=false) (fun m tm pg bz hI=>?_) (z).length ⟨0,by simp,rfl,rfl,rfl⟩;obtain⟨j,Nw,e9,rfl,N4⟩:=hI;have e1:=bz 1 (by kernel_rfl);conv at e1=>rhs;whnf
       have e2:=bz 2 (by kernel_rfl);conv at e2=>rhs;whnf
       have e6:=bz 6 (by kernel_rfl);conv at e6=>rhs;whnf
       have e7:=bz 7 (by kernel_rfl);conv at e7=>rhs;whnf
       have e8:=bz 8 (by kernel_rfl);conv at e8=>rhs;whnf
       refine⟨[(1,_),(2,_),(6,_),(7,_),(8,_),(9,_)],⟨e1,e2,e6,e7,e8,e9,trivial⟩,?_⟩;clear bz e1 e2 e6 e7 e8 e9;have fw:j<4611686018427387904:=by have:=Bd;omega
       conv=>whnf
       refine ae (fun g5=>?_) (fun g5=>?_)
       ·have bq:j<(z).length:=by simpa using g5
        obtain⟨P,Xu⟩:=ji j _ (au bq);have tW:((z).take (j+1)).any (fun x=>decide (x.w<0))=(((z).take j).any (fun x=>decide (x.w<0))||decide (((z)[j]).w<0)):=by rw[dn bq,List.any_append];simp
        have fC:decide (((z)[j]).w<0)=true->x5 (z)=true:=fun h=>List.any_eq_true.2 ⟨_,ay bq,h⟩;generalize(z)[j]=x at Xu tW fC;conv=>whnf
        refine⟨_,dT,⟨by omega,by omega⟩,?_⟩;conv=>whnf
        refine .inr ⟨_,_,_,dT,(by rw[bg,aq];exact Xu),?_⟩;conv=>whnf
        refine ae (fun g6=>?_) (fun g6=>?_)
        ·have qy:iR aF aH=3:=by
          unfold iR;rw[if_pos];rw[yh,cY,List.any_append,List.any_cons,fC g6];simp
         rw[qy];conv=>whnf
         exact⟨_,rfl,.inr ⟨by decide,_,rfl,S.my 5⟩⟩
        ·conv=>whnf
         exact⟨m-1,by omega,j+1,by omega,aQ j fw,rfl,by rw[tW,N4,g6];rfl⟩
       ·have bq:j=(z).length:=by simp at g5;omega
        subst bq;rw[aS]at N4;have U3:x5 (z)=false:=N4;conv=>whnf
        replace S:=S.q2;intro nM nN de dg;replace S:=S.alloc de dg;conv=>whnf
        refine⟨trivial,?_⟩;conv=>whnf
        refine⟨[_],bG (S.row 0 rfl),cQ rfl rfl,?_⟩;replace S:=S.drop 0;dsimp only[List.eraseIdx]at S;refine jM (sz:=1) (d:=aE.d (z)) S (by simp[br];omega) fun k6 h6 F6 S2=>?_;clear S;have S:=S2;clear S2;conv=>whnf
        exact⟨mi-1,by omega,i+1,_,_,_,vd++[_],_,outs++[(z)],by omega,rfl,aQ i vQ,by simp[Sf],by simp[MX],by rw[yh,cY,List.append_assoc];rfl,by rw[List.any_append,JN];simp only[List.any_cons,List.any_nil,U3];rfl,by rw[bd];exact S⟩
    ·have mg:i=aF.length:=by simp at g1;omega
     subst mg;have Tl:jy aF aH=outs:=by rw[yh,aL];simp[jy]
     have sU:=AH P3 Yl;rw[Tl]at sU⊢;replace S:=((S.drop 1).drop 1).drop 1;dsimp only[List.eraseIdx]at S;have hR:iR aF aH=if outs.all c7 then 0 else 5:=by unfold iR;rw[Tl,if_neg (by rw[JN];simp)]
     have hA:qS 1 hq (outs.map aE.d) O FO:=S.get 0 rfl
     have hO:(O= .nil/\outs=[])∨ ∃id vs,O= .own id 0 outs.length/\hq[id]?=some (.arr 1 vs)/\ ∀(k:Nat) z,outs[k]?=some z-> ∃u G,vs[k]?=some u/\bP hq (aE.d z) u G:=by
      rcases hA.2 with rfl|⟨id,rfl⟩
      ·have h0:=hA.1;simp only[bP]at h0;rcases h0 with⟨h1,_⟩|⟨_,_,_,h1,_⟩
       ·exact .inl ⟨rfl,by simpa using h1⟩
       ·cases h1
      ·have h0:=hA.1;simp only[bP]at h0;rcases h0 with⟨_,_,h1|h1⟩|⟨yu,vs,Fs,he,h5,h6,_⟩
       ·cases h1
       ·cases h1
       ·injection he with e1;subst e1;exact .inr ⟨id,vs,by simp,h5,fun k z hk=>bZ.Lc h6 k (aE.d z) (by simp[hk])⟩
     clear hA;conv=>whnf
     rcases hO with⟨rfl,rfl⟩|⟨idO,vO,rfl,dT,ji⟩
     ·refine dh (fun m tm hp=>tm 10=i64 0/\hp=hq) (fun m tm pg bz hI=>?_) 0 ⟨rfl,rfl⟩;obtain⟨qX,rfl⟩:=hI;have e6:=bz 6 (by kernel_rfl);conv at e6=>rhs;whnf
      refine⟨[(6,_),(10,_)],⟨e6,qX,trivial⟩,?_⟩;clear bz e6 qX;conv=>whnf
      exact⟨_,rfl,.inl ⟨by rw[hR];rfl,_,_,_,rfl,S⟩⟩
     ·refine dh (fun m tm hp=>∃j:Nat,j+m=outs.length/\tm 10=i64 (j:Nat)/\hp=hq/\(outs.take j).all c7=true) (fun m tm pg bz hI=>?_) outs.length ⟨0,by simp,rfl,rfl,rfl⟩;obtain⟨j,hj,qX,rfl,Qf⟩:=hI;have e6:=bz 6 (by kernel_rfl);conv at e6=>rhs;whnf
      refine⟨[(6,_),(10,_)],⟨e6,qX,trivial⟩,?_⟩;clear bz e6 qX;have fw:j<4611686018427387904:=by omega
      conv=>whnf
      refine ae (fun g5=>?_) (fun g5=>?_)
      ·have bq:j<outs.length:=by simpa using g5
       obtain⟨u,G,hgu,hou⟩:=ji j _ (au bq);have hzj:=sU _ (ay bq);have tW:(outs.take (j+1)).all c7=((outs.take j).all c7&&c7 outs[j]):=by rw[dn bq,List.all_append];simp
       have fC:c7 outs[j]=false->outs.all c7=false:=fun h=>List.all_eq_false.2 ⟨_,ay bq,by rw[h];simp⟩;have Kk:=(gu hp outs[j] hzj).here (h:=pg) (bm (aE.fU hou) (dc _)) rfl rfl;have hpu:ff (du pr).P 30 u 0=some u:=by rcases(show bP pg (.s 2 ((outs[j]).map Item.d)) u G from hou).slice with rfl|rfl|⟨_,_,rfl⟩<;>rfl
       generalize outs[j]=z at tW fC Kk;conv=>whnf
       refine⟨_,dT,⟨by omega,by omega⟩,?_⟩;conv=>whnf
       refine .inr ⟨_,_,_,dT,(by rw[bg,aq];exact hgu),eV (v:=u) hpu ?_⟩;conv=>whnf
       refine⟨_,Kk,?_⟩;conv=>whnf
       refine ae (fun g6=>?_) (fun g6=>?_)
       ·conv=>whnf
        exact⟨m-1,by omega,j+1,by omega,aQ j fw,rfl,by rw[tW,Qf,g6];rfl⟩
       ·rw[hR,if_neg (by rw[fC g6];simp)];conv=>whnf
        exact⟨_,rfl,.inr ⟨by decide,_,rfl,S.drop 0⟩⟩
      ·have bq:j=outs.length:=by simp at g5;omega
       subst bq;rw[aS]at Qf;conv=>whnf
       exact⟨_,rfl,.inl ⟨by rw[hR,if_pos Qf],_,_,_,rfl,S⟩⟩
end Go.Proofs.YtfepbikckfehlaaGreat

/- Flows, views, stores compared: the program's. -/
import Derived.Test.YtfepbikckfehlaaGreatGH29
import Derived.Test.YtfepbikckfehlaaGreatGH28
import Derived.Test.YtfepbikckfehlaaGreatGH27
import Derived.Test.YtfepbikckfehlaaGreatGH23
set_option linter.unusedVariables false
set_option linter.unusedSimpArgs false
set_option maxHeartbeats 4000000
namespace Go.Am
open Go
theorem yd{h:aG}{k:Nat}{fn:Fn}{x:af}(hk:h[k]?=some (.box x))(hx:cI h 4194302 x=some x):snap h (.func fn [] [.ptr k 0 0])=some (.func fn [] [.fQ [x] 0 0]):=by
 show(match di (cI h 4194303) [],di (cI h 4194303) [af.ptr k 0 0]with
  |some a,some b=>some (af.func fn a b)
  |_,_=>none)=_
 have:cI h 4194303 (.ptr k 0 0)=some (.fQ [x] 0 0):=by
  show(match h[k]? with
   |some (.box x)=>if 0=0 then(cI h 4194302 x).map (fun x=>af.fQ [x] 0 0)else none
   |some (.arr _ es)=>(di (cI h 4194302) es).map fun xs=>.fQ xs 0 0
   |_=>none)=_
  rw[hk];simp only[hx,if_true,aaL]
 simp only[di,this]
end Go.Am
namespace Go.Proofs.YtfepbikckfehlaaGreat
open Go Go.Am
variable{pr:bW}(hp:cF pr)(hs:DE pr)
set_option maxRecDepth 100000
theorem Bs(hp:cF pr)(z:List Item)(wide:Int)(hl:z.length<=dB):dK pr 76 [aI.enc z,i64 wide] (.bool (nP z wide)):=by
 have h:=Ip hp wide z hl
 have he:nP z wide= !(z.any fun x:Item=>decide ((x.row.length:Int)≠wide)):=by
  unfold nP;rw[List.not_any_eq_all_not]
  congr 1
  funext x
  simp
 rw[he];refine ff hp rfl rfl ?_;have S:=aj.nil [];conv=>whnf
 intro k1 a1 eg er;replace S:=S.alloc eg er;conv=>whnf
 refine⟨_,h.here (lj rfl (yd (S.row 0 rfl) rfl)) rfl rfl,?_⟩;conv=>whnf
 refine ae (fun g1=>?_) (fun g1=>?_)
 ·conv=>whnf
  exact br (by rw[g1];rfl)
 ·conv=>whnf
  exact br (by rw[g1];rfl)
theorem TZ(hp:cF pr)(z:List Item)(hl:z.length<=dB):dK pr 77 [aI.enc z] (.bool (z.any fun x=>decide (x.w<0))):=by
 have h:=KQ hp 0 z hl;refine ff hp rfl rfl ?_;have S:=aj.nil []
 iterate 4
  all_goals(try(conv=>whnf))
  all_goals(first|(intro iK cp ee bf;replace S:=S.alloc ee bf)|(refine aC (S.row 0 rfl) ?_)|(refine⟨_,rfl,rfl,rfl,.inl ⟨_,S.row 0 rfl,rfl,?_⟩⟩;(conv=>whnf);intro cp bf;replace S:=S.w0 bf)|(refine ae (fun hb=>?_) (fun hb=>?_))|(refine⟨_,h _,?_⟩)|skip)
 all_goals(try(conv=>whnf))
 all_goals exact br hb.symm
def Bt(w:Int)(z:List Item):Bool:=decide (1<=w)&&(decide (w<=6)&&(dS z&&(nP z w&& !(z.any fun x=>decide (x.w<0)))))
theorem Ox(hp:cF pr)(z:List Item)(wide:Int)(hz:ij z):dK pr 45 [aI.enc z,i64 wide] (.bool (Bt wide z)):=by
 have h1:=uX hp z hz;have h2:=Bs hp z wide hz.1;have h3:=TZ hp z hz.1;unfold Bt;generalize(z.any fun x=>decide (x.w<0))=b3 at h3⊢;generalize nP z wide=b2 at h2⊢;generalize dS z=b1 at h1⊢;refine ff hp rfl rfl ?_;have S:=aj.nil []
 iterate 10
  all_goals(try(conv=>whnf))
  all_goals(first|(intro iK cp ee bf;replace S:=S.alloc ee bf)|(refine aC (S.row 0 rfl) ?_)|(refine⟨_,rfl,rfl,rfl,.inl ⟨_,S.row 0 rfl,rfl,?_⟩⟩;(conv=>whnf);intro cp bf;replace S:=S.w0 bf)|(refine ae (fun hb=>?_) (fun hb=>?_))|(refine⟨_,h1 _,?_⟩)|(refine⟨_,h2 _,?_⟩)|(refine⟨_,h3 _,?_⟩)|skip)
 all_goals(try(conv=>whnf))
 all_goals exact br (by clear h1 h2 h3 S;first|(simp_all;done)|(simp_all;omega))
def kV(now wide:Int):Int->List dg->Bool
 |_,[]=>true
 |lo,p::ps=>(decide (lo<p.dP)&&(decide (p.dP<=now)&&(dS p.out&&nP p.out wide)))&&kV now wide p.dP ps
def Bu(fo:Bool)(wide lo now bO:Int)(base:List Item)(aZ:List dg):Bool:=
 fo&&(!(wide== -1)&&(decide (0<=bO)&&(decide (bO<=now)&&(dS base&&(nP base wide&&(decide (aZ.length<=40)&&kV now wide lo aZ))))))
def ix(ws:List Int)(now keep:Int)(v:View):Bool:=
 Bu (fit v.hU.ez&&kU iV v.hU) (iQ v.hU.ez ws) (if keep>v.bO then keep else v.bO) now v.bO v.base v.aZ
theorem Ro(hs:DE pr)(v:View)(s:bN)(ht:v.d.fA<=1048576)(hw:s.bc.length<=1048576):dK pr 48 [s.enc,v.enc] (.bool (ix s.bc s.now s.keep v)):=by
 have hp:=hs.tocF;rw[nk]at ht;obtain⟨f,bO,base,aZ⟩:=v;obtain⟨bc,aH,aL,now,keep⟩:=s;simp only at ht hw;have hf:=Oj hs f (by omega);obtain⟨⟨au,n,aD,cells,a,b,aq,agg,c,ao⟩,l,r,ks⟩:=f;have hw:=HX hs (.mk au n aD cells a b aq agg c ao) bc (by rw[jY]at ht;unfold aA.small;omega) hw;have hbz:=j0 (z:=base) (by omega);have UW:=uX hp base hbz;have hbw:=fun w=>Bs hp base w hbz.1;have sg:=fun(x:dg)(hx:x∈aZ)=>uX hp x.out (lq (by omega) x hx);have xP:=fun(x:dg)(hx:x∈aZ) w=>Bs hp x.out w (lq (by omega) x hx).1;have vD:aZ.length<=1048576:=by omega
 clear ht hbz;unfold ix;simp only[bz.ez]at hf⊢;generalize iQ (aA.mk au n aD cells a b aq agg c ao) bc=wide at hw⊢;generalize JJ:(fit (aA.mk au n aD cells a b aq agg c ao)&&kU iV (bz.mk (aA.mk au n aD cells a b aq agg c ao) l r ks))=fo at hf⊢;clear JJ;generalize hR:Bu fo wide (if keep>bO then keep else bO) now bO base aZ=R;unfold Bu at hR;refine ff hp rfl rfl ?_;have S:=aj.nil [];conv=>whnf
 intro k1 a1 eg er;replace S:=S.alloc eg er;clear eg er;conv=>whnf
 intro k2 a2 jS jb;replace S:=S.alloc jS jb;clear jS jb;have S0:aj a2 [.row k2 (.box (View.mk (.mk (.mk au n aD cells a b aq agg c ao) l r ks) bO base aZ).enc),.row k1 (.box (bN.mk bc aH aL now keep).enc)]:=S;clear S;have S:=S0;clear S0
 iterate 24
  all_goals(try(conv=>whnf))
  all_goals(first|(intro iK cp ee bf;replace S:=S.alloc ee bf)|(refine aC (S.row 0 rfl) ?_)|(refine aC (S.row 1 rfl) ?_)|(refine⟨_,rfl,rfl,rfl,.inl ⟨_,S.row 0 rfl,rfl,?_⟩⟩;(conv=>whnf);intro cp bf;replace S:=S.w0 bf)|(refine⟨_,rfl,rfl,rfl,.inl ⟨_,S.row 1 rfl,rfl,?_⟩⟩;(conv=>whnf);intro cp bf;replace S:=S.w1 bf)|(refine ae (fun hb=>?_) (fun hb=>?_))|(refine⟨_,hw _,?_⟩)|(refine⟨_,hf _,?_⟩)|(refine⟨_,UW _,?_⟩)|(refine⟨_,hbw _ _,?_⟩)|skip)
 all_goals(try(conv=>whnf))
 all_goals first
  |exact br (by rw[<-hR];clear hR hf hw UW hbw sg xP S;first|(simp_all;done)|(simp_all;omega)|(simp_all;intros;omega))
  |skip
 all_goals
  have f1:fo=true:=by assumption
  have f2:(wide== -1)=false:=by assumption
  have f3:aZ.length<=40:=by simp at hb;omega
  have f4:dS base=true:=by assumption
  have f5:nP base wide=true:=by assumption
  have f6:0<=bO:=by have:decide (bO<0)=false:=by assumption
                    simpa using this
  have f7:bO<=now:=by have:decide (bO>now)=false:=by assumption
                      simpa using this
  have aF:kV now wide (if keep>bO then keep else bO) aZ=R:=by
   rw[<-hR,f1,f2,f4,f5,decide_eq_true f3,decide_eq_true f6,decide_eq_true f7];rfl
  clear hR hf hw UW hbw;conv=>whnf
  refine iv (fun m tm hp=>∃(j:Nat)(L:Int),j+m=aZ.length/\tm 6=i64 L/\tm 62=i64 (j:Nat)/\aj hp [.row k2 (.box (View.mk (.mk (.mk au n aD cells a b aq agg c ao) l r ks) bO base aZ).enc),.row k1 (.box (bN.mk bc aH aL now keep).enc)]/\(kV now wide L (aZ.drop j)=R)) (fun m tm hq bG hI=>?_) (aZ.length) ⟨0,(if keep>bO then keep else bO),by simp,(by first|rfl|kernel_rfl|simp),(by first|rfl|kernel_rfl|simp),S,(aF)⟩;obtain⟨j,L,hj,e6,e62,S2,aF⟩:=hI;have k2:=bG 2 (by kernel_rfl);conv at k2=>rhs;whnf
  rw[<-aR k2];have k5:=bG 5 (by kernel_rfl);conv at k5=>rhs;whnf
  rw[<-aR k5];have k60:=bG 60 (by kernel_rfl);conv at k60=>rhs;whnf
  rw[<-aR k60];have k61:=bG 61 (by kernel_rfl);conv at k61=>rhs;whnf
  rw[<-aR k61];rw[<-aR e6];rw[<-aR e62];clear bG k2 k5 k60 k61 e6 e62;clear S;have S:=S2;clear S2;conv=>whnf
  have gA:j<4611686018427387904:=by omega
  refine ae (fun h1=>?_) (fun h1=>?_)
  ·have bp:j<aZ.length:=by simpa using h1
   have dw:(aZ.map dg.enc)[((j:Nat):Int).toNat]?=some (dg.enc aZ[j]):=by rw[aaa];simp[bp]
   rw[aaf bp]at aF;simp only[kV]at aF;have h2:=sg _ (aac bp);have h3:=xP _ (aac bp) wide;generalize aZ[j]=x at dw aF h2 h3;obtain⟨t,out⟩:=x;simp only at aF h2 h3;conv=>whnf
   refine⟨_,dw,by omega,rfl,?_⟩
   iterate 18
    all_goals(try(conv=>whnf))
    all_goals(first|(intro iK cp ee bf;replace S:=S.alloc ee bf)|(refine aC (S.row 0 rfl) ?_)|(refine aC (S.row 1 rfl) ?_)|(refine aC (S.row 2 rfl) ?_)|(refine⟨_,rfl,rfl,rfl,.inl ⟨_,S.row 0 rfl,rfl,?_⟩⟩;(conv=>whnf);intro cp bf;replace S:=S.w0 bf)|(refine⟨_,rfl,rfl,rfl,.inl ⟨_,S.row 1 rfl,rfl,?_⟩⟩;(conv=>whnf);intro cp bf;replace S:=S.w1 bf)|(refine⟨_,rfl,rfl,rfl,.inl ⟨_,S.row 2 rfl,rfl,?_⟩⟩;(conv=>whnf);intro cp bf;replace S:=S.w2 bf)|(refine ae (fun hb=>?_) (fun hb=>?_))|(refine⟨_,h2 _,?_⟩)|(refine⟨_,h3 _,?_⟩)|skip)
   all_goals(try(conv=>whnf))
   all_goals first
    |exact br (by rw[<-aF];clear dw h2 h3 sg xP S aF;first|(simp_all;done)|(simp_all;omega)|(simp_all;intros;omega))
    |exact⟨m-1,by omega,j+1,t,by omega,rfl,aP j gA,S.drop 0,by rw[<-aF];clear dw h2 h3 sg xP S aF;first|(simp_all;done)|(simp_all;omega)|(simp_all;intros;omega)⟩
  ·have bp:j=aZ.length:=by
    have: ¬j<aZ.length:=by simpa using h1
    omega
   subst bp;rw[aal]at aF;conv=>whnf
   exact br (by rw[<-aF];simp[kV])
def UX(s:bN):af:=.func (.func 47) [] [.fQ [s.enc] 0 0]
theorem T0(hs:DE pr)(v:View)(s:bN)(ht:v.d.fA<=1048576)(hw:s.bc.length<=1048576):dK pr 47 [v.enc,.fQ [s.enc] 0 0] (.bool (!ix s.bc s.now s.keep v)):=by
 have h:=Ro hs v s ht hw;obtain⟨⟨⟨au,n,aD,cells,a,b,aq,agg,c,ao⟩,l,r,ks⟩,bO,base,aZ⟩:=v;obtain⟨bc,aH,aL,now,keep⟩:=s;simp only at h⊢;generalize ix bc now keep _=ok at h⊢;refine ff hs.tocF rfl rfl ?_;have S:=aj.nil [];conv=>whnf
 intro k1 a1 eg er;replace S:=S.alloc eg er;refine aC (S.row 0 rfl) ?_;conv=>whnf
 refine⟨_,h _,?_⟩;conv=>whnf
 refine ae (fun g1=>?_) (fun g1=>?_)
 ·conv=>whnf
  exact br (by rw[g1];rfl)
 ·conv=>whnf
  exact br (by rw[g1];rfl)
theorem Oy(hs:DE pr)(xs:List View)(s:bN)(hl:xs.length<=dB)(ht: ∀v∈xs,v.d.fA<=1048576)(hw:s.bc.length<=1048576):
  dK pr 78 [.sl (xs.map View.enc),UX s] (i64 (oY (fun v=>!ix s.bc s.now s.keep v) 0 xs)):=by
   generalize hR:oY (fun v=>!ix s.bc s.now s.keep v) 0 xs=R;have hv: ∀v∈xs,_:=fun v hm=>T0 hs v s (ht v hm) hw;have vM:=hl;unfold dB at vM;refine ff hs.tocF rfl rfl ?_;have S:=aj.nil [];conv=>whnf
   refine iv (fun m tm hp=>∃(j:Nat),j+m=xs.length/\tm 8=i64 (j:Nat)/\(oY (fun v=>!ix s.bc s.now s.keep v) (j:Nat) (xs.drop j)=R)) (fun m tm hq bG hI=>?_) (xs.length) ⟨0,by simp,(by first|rfl|kernel_rfl|simp),(hR)⟩;obtain⟨j,hj,e8,aF⟩:=hI;have k0:=bG 0 (by kernel_rfl);conv at k0=>rhs;whnf
   rw[<-aR k0];have k1:=bG 1 (by kernel_rfl);conv at k1=>rhs;whnf
   rw[<-aR k1];have k7:=bG 7 (by kernel_rfl);conv at k7=>rhs;whnf
   rw[<-aR k7];rw[<-aR e8];clear bG k0 k1 k7 e8;have S:aj hq []:=aj.nil hq;conv=>whnf
   refine ae (fun h1=>?_) (fun h1=>?_)
   ·have bp:j<xs.length:=by simpa using h1
    have dw:(xs.map View.enc)[((j:Nat):Int).toNat]?=some (View.enc xs[j]):=by rw[aaa];simp[bp]
    have h2:=hv _ (aac bp);rw[aaf bp]at aF;simp only[oY]at aF;generalize xs[j]=v at dw h2 aF;generalize(!ix s.bc s.now s.keep v)=b at h2 aF;obtain⟨⟨⟨au,n,aD,cells,a,b',aq,agg,c,ao⟩,l,r,ks⟩,bO,base,aZ⟩:=v;conv=>whnf
    refine⟨_,dw,by omega,rfl,?_⟩;conv=>whnf
    refine⟨_,h2 _,?_⟩;conv=>whnf
    refine ae (fun h3=>?_) (fun h3=>?_)
    ·conv=>whnf
     exact eJ (by rw[<-aF,h3];rfl)
    ·conv=>whnf
     exact⟨m-1,by omega,j+1,by omega,aP j (by omega),by rw[<-aF,h3];rfl⟩
   ·have bp:j=xs.length:=by
     have: ¬j<xs.length:=by simpa using h1
     omega
    subst bp;rw[aal]at aF;conv=>whnf
    exact eJ (by rw[<-aF];rfl)
theorem Oz(hs:DE pr)(xs:List View)(s:bN)(hl:xs.length<=dB)(ht: ∀v∈xs,v.d.fA<=1048576)(hw:s.bc.length<=1048576):
  dK pr 46 [.sl (xs.map View.enc),UX s] (.bool (xs.any fun v=>!ix s.bc s.now s.keep v)):=by
   have h:=Oy hs xs s hl ht hw;rw[<-zV _ xs 0 (Int.le_refl 0)];refine ff hs.tocF rfl rfl ?_;have S:=aj.nil []
   iterate 3
    all_goals(try(conv=>whnf))
    all_goals(first|(intro iK cp ee bf;replace S:=S.alloc ee bf)|(refine aC (S.row 0 rfl) ?_)|(refine⟨_,rfl,rfl,rfl,.inl ⟨_,S.row 0 rfl,rfl,?_⟩⟩;(conv=>whnf);intro cp bf;replace S:=S.w0 bf)|(refine ae (fun hb=>?_) (fun hb=>?_))|(refine⟨_,h _,?_⟩)|skip)
   all_goals exact br hb.symm
def mZ:List (List Item)->List Int->Bool
 |t::ts,w::ws=>Bt w t&&mZ ts ws
 |_,_=>true
theorem Lc{ws:List Int}{ts:List (List Item)}{j:Nat}(h1:j<ws.length)(h2:j<ts.length):mZ (ts.drop j) (ws.drop j)=(Bt ws[j] ts[j]&&mZ (ts.drop (j+1)) (ws.drop (j+1))):=by
 rw[aaf h1,aaf h2,mZ]
def me(s:bN):Bool:=
 decide (s.aH.length<=3)&&(decide (s.bc.length=s.aH.length)&&(decide (s.aL.length<=3)&&(decide (0<=s.keep)&&(decide (s.keep<=s.now)&&(decide (s.now<=40)&&(mZ s.aH s.bc&& !s.aL.any fun v=>!ix s.bc s.now s.keep v))))))
theorem Bv(hs:DE pr)(s:bN)(ht:s.d.fA<=1048576):dK pr 15 [s.enc] (.bool (me s)):=by
 have hp:=hs.tocF;rw[eK]at ht;have Ws:=Oz hs s.aL s (by simp[dB];omega) (fun v hv=>by have:=eA (f:=View.d) hv;omega) (by omega);obtain⟨bc,aH,aL,now,keep⟩:=s;simp only at ht Ws;have Ov:=fun(z:List Item)(hz:z∈aH) w=>Ox hp z w (pg (by omega) z hz);clear ht;generalize hR:me ⟨bc,aH,aL,now,keep⟩=R;simp only[me]at hR;generalize(aL.any fun v=>!ix bc now keep v)=av at Ws hR;refine ff hp rfl rfl ?_;have S:=aj.nil [];conv=>whnf
 intro k1 a1 eg er;replace S:=S.alloc eg er;clear eg er;have S0:aj a1 [.row k1 (.box (bN.mk bc aH aL now keep).enc)]:=S;clear S;have S:=S0;clear S0
 iterate 20
  all_goals(try(conv=>whnf))
  all_goals(first|(intro iK cp ee bf;replace S:=S.alloc ee bf)|(refine aC (S.row 0 rfl) ?_)|(refine⟨_,rfl,rfl,rfl,.inl ⟨_,S.row 0 rfl,rfl,?_⟩⟩;(conv=>whnf);intro cp bf;replace S:=S.w0 bf)|(refine ae (fun hb=>?_) (fun hb=>?_))|skip)
 all_goals(try(conv=>whnf))
 all_goals first
  |exact br (by rw[<-hR];clear hR Ov Ws S;first|(simp_all;done)|(simp_all;omega)|(simp_all;intros;omega))
  |skip
 all_goals
  have hlen:bc.length=aH.length:=by clear hR Ov Ws S;simp_all;omega
  have hw3:aH.length<=3:=by clear hR Ov Ws S;simp_all;omega
  have aF:(mZ aH bc&& !av)=R:=by rw[<-hR];clear hR Ov Ws S;first|(simp_all;done)|(simp_all;omega)|(simp_all;intros;omega)
  clear hR;conv=>whnf
  refine iv (fun m tm hp=>∃(j:Nat),j+m=aH.length/\tm 44=i64 (j:Nat)/\aj hp [.row k1 (.box (bN.mk bc aH aL now keep).enc)]/\((mZ (aH.drop j) (bc.drop j)&& !av)=R)) (fun m tm hq bG hI=>?_) (aH.length) ⟨0,by simp,(by first|rfl|kernel_rfl|simp),S,(aF)⟩;obtain⟨j,hj,e44,S2,aF⟩:=hI;have k1:=bG 1 (by kernel_rfl);conv at k1=>rhs;whnf
  rw[<-aR k1];have k42:=bG 42 (by kernel_rfl);conv at k42=>rhs;whnf
  rw[<-aR k42];have k43:=bG 43 (by kernel_rfl);conv at k43=>rhs;whnf
  rw[<-aR k43];rw[<-aR e44];clear bG k1 k42 k43 e44;clear S;have S:=S2;clear S2;conv=>whnf
  refine ae (fun h1=>?_) (fun h1=>?_)
  ·have bp:j<aH.length:=by simpa using h1
   have dw:(aH.map aI.enc)[((j:Nat):Int).toNat]?=some (aI.enc aH[j]):=by rw[aaa];simp[bp]
   have Xv:j<bc.length:=by omega
   have SJ:(bc.map i64)[((j:Nat):Int).toNat]?=some (i64 bc[j]):=by rw[aaa];simp[Xv]
   rw[Lc Xv bp]at aF;have h2:=Ov _ (aac bp) bc[j];generalize bc[j]=w at SJ aF h2;generalize aH[j]=z at dw aF h2;generalize Bt w z=tk at aF h2;conv=>whnf
   refine⟨_,dw,by omega,rfl,?_⟩;refine aC (S.row 0 rfl) ?_;conv=>whnf
   refine⟨_,SJ,by omega,rfl,?_⟩;conv=>whnf
   refine⟨_,h2 _,?_⟩;conv=>whnf
   refine ae (fun g1=>?_) (fun g1=>?_)
   ·rw[g1,aay]at aF;conv=>whnf
    exact⟨m-1,by omega,j+1,by omega,aP j (by omega),S,aF⟩
   ·conv=>whnf
    exact br (by rw[<-aF,g1];rfl)
  ·have bp:j=aH.length:=by
    have: ¬j<aH.length:=by simpa using h1
    omega
   subst bp;rw[aal]at aF;have aF:(!av)=R:=by rw[<-aF];simp[mZ]
   refine aC (S.row 0 rfl) ?_;conv=>whnf
   refine⟨_,Ws.here (lj rfl (yd (S.row 0 rfl) rfl)) rfl rfl,?_⟩;conv=>whnf
   refine ae (fun g1=>?_) (fun g1=>?_)
   ·conv=>whnf
    exact br (by rw[<-aF,g1];rfl)
   ·conv=>whnf
    exact br (by rw[<-aF,g1];rfl)
theorem Fj(dP:Int): ∀(ps:List dg)(z:List Item),(∀p∈ps,dS p.out=true)->(∀x∈z,x.row.length<=dB)->(JB dP z ps).length<=z.length+100*ps.length/\ ∀x∈JB dP z ps,x.row.length<=dB
 | [],z,_,hz=>⟨by simp[JB],hz⟩
 |p::ps,z,hp,hz=>by
  have h1:=(dA (hp p (by simp))).1
  have h2:(eI z p.out).length<=z.length+p.out.length/\ ∀x∈eI z p.out,x.row.length<=dB:=⟨vc _ _ _ (aah _),fun x hx=>by
   obtain⟨y,hy,e⟩:=Bh _ z p.out (aah _) x hx;rw[e];rcases hy with hy|hy
   ·exact hz y hy
   ·exact(dC (hp p (by simp))).2 y hy⟩
  simp only[JB,aak];split
  ·obtain⟨g1,g2⟩:=Fj dP ps _ (fun q hq=>hp q (by simp[hq])) h2.2;exact⟨by omega,g2⟩
  ·obtain⟨g1,g2⟩:=Fj dP ps _ (fun q hq=>hp q (by simp[hq])) hz;exact⟨by omega,g2⟩
theorem zg{now wide:Int}: ∀{ps:List dg}{q:Int},kV now wide q ps=true-> ∀p∈ps,dS p.out=true
 | [],_,_,p,hp=>by simp at hp
 |x::xs,q,h,p,hp=>by
  simp only[kV,xz]at h;rcases aaz.1 hp with rfl|hp
  ·exact h.1.2.2.1
  ·exact zg h.2 p hp
theorem OA{ws:List Int}{now keep:Int}{v:View}(h:ix ws now keep v=true):dS v.base=true/\(∀p∈v.aZ,dS p.out=true)/\v.aZ.length<=40:=by
 simp only[ix,Bu,xz,decide_eq_true_iff]at h;exact⟨h.2.2.2.2.1,zg h.2.2.2.2.2.2.2,h.2.2.2.2.2.2.1⟩
theorem Le{s:bN}(h:me s=true): ∀v∈s.aL,ix s.bc s.now s.keep v=true:=by
 simp only[me,xz,Bool.not_eq_true']at h;intro v hv;have:=List.any_eq_false.1 h.2.2.2.2.2.2.2 v hv;simpa using this
def qP(s:bN)(view dP:Int):List Item×Int:=
 if !me s then([],6)
 else if decide (view<0)||(decide (view>=s.aL.length)||decide (dP>s.now))then([],1)
 else match s.aL[view.toNat]? with
  |none=>([],1)
  |some v=>if decide (dP<s.keep)||decide (dP<v.bO)then([],4)
   else if(wI (JB dP v.base v.aZ)).2 then((wI (JB dP v.base v.aZ)).1,0)else([],5)
theorem wR(hs:DE pr)(s:bN)(view dP:Int)(ht:s.d.fA<=1048576):nc pr 6 [s.enc,i64 view,i64 dP] [aI.d (qP s view dP).1,.i (qP s view dP).2]:=by
 have hp:=hs.tocF;have eb:=Bv hs s ht;have Xw:=@Le s;generalize hR:qP s view dP=R;obtain⟨R1,R2⟩:=R;simp only;unfold qP at hR;generalize me s=ok at eb Xw hR;obtain⟨bc,aH,aL,now,keep⟩:=s;simp only at hR Xw;have fin: ∀(h:aG)(n:Int),cZ h [aI.d [],.i n] [.nil,i64 n] ([]++[]):=fun h n=>iH (rI 2) (uq n);refine MC hp rfl ?_;have S:=aj.nil [];conv=>whnf
 intro k1 a1 eg er;replace S:=S.alloc eg er;clear eg er;have S0:aj a1 [.row k1 (.box (bN.mk bc aH aL now keep).enc)]:=S;clear S;have S:=S0;clear S0;refine aC (S.row 0 rfl) ?_;conv=>whnf
 refine⟨_,eb _,?_⟩;conv=>whnf
 refine ae (fun g0=>?_) (fun g0=>?_)
 ·subst g0;simp only[Bool.not_true,Bool.false_eq_true,if_false]at hR;conv=>whnf
  refine ae (fun g1=>?_) (fun g1=>?_)
  ·have e:(([]:List Item),(1:Int))=(R1,R2):=by rw[<-hR];rw[g1];rfl
   cases e
   conv=>whnf
   exact⟨_,rfl,_,_,_,rfl,fin _ _,by simp⟩
  ·rw[g1,Bool.false_or]at hR;refine aC (S.row 0 rfl) ?_;conv=>whnf
   refine ae (fun g2=>?_) (fun g2=>?_)
   ·have wM:decide (view>=aL.length)=true:=by simpa using g2
    have e:(([]:List Item),(1:Int))=(R1,R2):=by rw[<-hR];rw[wM];rfl
    cases e
    conv=>whnf
    exact⟨_,rfl,_,_,_,rfl,fin _ _,by simp⟩
   ·have wM:decide (view>=aL.length)=false:=by simpa using g2
    rw[wM,Bool.false_or]at hR;refine aC (S.row 0 rfl) ?_;conv=>whnf
    refine ae (fun g3=>?_) (fun g3=>?_)
    ·have e:(([]:List Item),(1:Int))=(R1,R2):=by rw[<-hR];rw[g3];rfl
     cases e
     conv=>whnf
     exact⟨_,rfl,_,_,_,rfl,fin _ _,by simp⟩
    ·rw[g3]at hR;simp only[Bool.false_eq_true,if_false]at hR;have xF:0<=view:=by simpa using g1
     have CI:view.toNat<aL.length:=by simp at g2;omega
     have Xw:=Xw rfl _ (aac CI);have dw:(aL.map View.enc)[view.toNat]?=some (View.enc aL[view.toNat]):=by simp[CI]
     rw[aab CI]at hR;simp only at hR;obtain⟨z1,z2,z3⟩:=OA Xw;have h4:=Q7 hp aL[view.toNat] dP z1 z2 (by omega);have h6:=Fj dP aL[view.toNat].aZ aL[view.toNat].base z2 (dC z1).2;have h7:=Wk hs (JB dP aL[view.toNat].base aL[view.toNat].aZ) ⟨by have:=h6.1;have:=(dA z1).1;simp[dB];omega,h6.2⟩;clear h6 Xw z1 z2 z3;generalize aL[view.toNat]=v at dw hR h4 h7;generalize hz:JB dP v.base v.aZ=z at hR h4 h7;generalize wI z=tz at hR h7;obtain⟨z',ok⟩:=tz;simp only at hR h7;obtain⟨⟨⟨au,n,aD,cells,a,b',aq,agg,c,ao⟩,l,r,ks⟩,bO,base,aZ⟩:=v;simp only at hR
     have main:decide (dP<keep)=false->decide (dP<bO)=false->(if ok=true then(z',(0:Int))else([],5))=(R1,R2):=fun e1 e2=>by
      rw[<-hR,e1,e2];rfl
     refine aC (S.row 0 rfl) ?_;conv=>whnf
     refine ae (fun g4=>?_) (fun g4=>?_)
     ·have e:(([]:List Item),(4:Int))=(R1,R2):=by rw[<-hR];rw[g4];rfl
      cases e
      conv=>whnf
      exact⟨_,rfl,_,_,_,rfl,fin _ _,by simp⟩
     ·refine aC (S.row 0 rfl) ?_;conv=>whnf
      refine⟨_,dw,xF,rfl,?_⟩;conv=>whnf
      refine ae (fun g5=>?_) (fun g5=>?_)
      ·have g5':decide (dP<bO)=true:=g5;have e:(([]:List Item),(4:Int))=(R1,R2):=by rw[<-hR];rw[g4,g5'];rfl
       cases e
       conv=>whnf
       exact⟨_,rfl,_,_,_,rfl,fin _ _,by simp⟩
      ·have hm:=main g4 g5;clear main hR;refine aC (S.row 0 rfl) ?_;conv=>whnf
       refine⟨_,dw,xF,rfl,?_⟩;conv=>whnf
       refine⟨_,h4 _,?_⟩;conv=>whnf
       refine iG S h7 rfl rfl fun vs q1 F1 S1=>?_;obtain⟨v1,G1,rfl,S2⟩:=aj.lC S1
       cases ok with
       |true=>
        cases hm
        conv=>whnf
        exact⟨_,rfl,_,_,_,rfl,iH (S2.get 0 rfl) (uq 0),by rw[aaw];exact(S2.get' 0 _ rfl).2⟩
       |false=>
        cases hm
        conv=>whnf
        exact⟨_,rfl,_,_,_,rfl,fin _ _,by simp⟩
 ·subst g0;simp only[Bool.not_false,if_true,Prod.mk.injEq]at hR;obtain⟨rfl,rfl⟩:=hR;conv=>whnf
  exact⟨_,rfl,_,_,_,rfl,fin _ _,by simp⟩
end Go.Proofs.YtfepbikckfehlaaGreat
set_option maxHeartbeats 4000000
set_option pp.deepTerms false
set_option pp.deepTerms.threshold 60
namespace Go.Proofs.YtfepbikckfehlaaGreat
open Go Go.Am
variable{pr:bW}(hp:cF pr)
set_option maxRecDepth 100000
def zY(a b:List Item):Bool:=bZ kI a b
def vj(a b:List (List Item)):Bool:=bZ zY a b
def j4(p q:dg):Bool:=p.dP==q.dP&&zY p.out q.out
mutual
def gd:bz->bz->Bool
 | .mk p l r ks,.mk p' l' r' kC=>(vj l l'&&vj r r')&&(eY p p'&&zZ ks kC)
def zZ:List bz->List bz->Bool
 | [],[]=>true
 |f::fs,g::gs=>gd f g&&zZ fs gs
 |_,_=>false
end
theorem ph: ∀(fs gs:List bz),zZ fs gs=bZ gd fs gs
 | [],[]=>rfl
 |f::fs,g::gs=>by simp only[zZ,bZ,ph fs gs]
 | [],_::_=>rfl
 |_::_,[]=>rfl
def iC(v w:View):Bool:=gd v.hU w.hU&&(v.bO==w.bO&&(zY v.base w.base&&bZ j4 v.aZ w.aZ))
def gZ(a b:bN):Bool:=(a.now==b.now&&a.keep==b.keep)&&(bZ (· == ·) a.bc b.bc&&(bZ zY a.aH b.aH&&bZ iC a.aL b.aL))
def Wt:af:=.func (.func 8) [] []
def OB:af:=.func (.func 37) [] []
def tX:af:=.func (.func 35) [] []
def OC:af:=.func (.func 36) [] [.fQ [tX] 0 0]
theorem zh(hp:cF pr)(xs ys:List (List Item))(hl:xs.length<=dB)(ih: ∀x∈xs,∀y,dK pr 8 ([aI.enc x,aI.enc y]) (.bool (zY x y))):
  dK pr 40 [.sl (xs.map aI.enc),.sl (ys.map aI.enc),Wt] (.bool (bZ zY xs ys)):=by
   have vM:=hl;unfold dB at vM;refine kz hp rfl rfl ?_;have S:=aj.nil [];conv=>whnf
   refine ae (fun h0=>?_) (fun h0=>?_)
   ·conv=>whnf
    exact br (fg (by simp at h0;omega)).symm
   have hlen:xs.length=ys.length:=by simp at h0;omega
   conv=>whnf
   refine dQ (fun m tm hp=>∃(j:Nat),j+m=xs.length/\tm 17=i64 (j:Nat)/\(bZ zY xs ys=bZ zY (xs.drop j) (ys.drop j))) (fun m tm hq bG hI=>?_) (xs.length) ⟨0,by simp,rfl,(rfl)⟩;obtain⟨j,hj,Gg,aF⟩:=hI;have k0:=bG 0 (by kernel_rfl);conv at k0=>rhs;whnf
   have k1:=bG 1 (by kernel_rfl);conv at k1=>rhs;whnf
   have k2:=bG 2 (by kernel_rfl);conv at k2=>rhs;whnf
   have E9:=bG 15 (by kernel_rfl);conv at E9=>rhs;whnf
   have Fe:=bG 16 (by kernel_rfl);conv at Fe=>rhs;whnf
   refine⟨[(0,_),(1,_),(2,_),(15,_),(16,_),(17,_)],⟨k0,k1,k2,E9,Fe,Gg,trivial⟩,?_⟩;clear bG k0 k1 k2 E9 Fe Gg;have S:aj hq []:=aj.nil hq;conv=>whnf
   refine ae (fun h1=>?_) (fun h1=>?_)
   ·have bp:j<xs.length:=by simpa using h1
    rw[en bp (by omega)]at aF;have g1:(xs.map aI.enc)[((j:Nat):Int).toNat]?=some (aI.enc xs[j]):=by rw[aaa];simp[bp]
    have g2:(ys.map aI.enc)[((j:Nat):Int).toNat]?=some (aI.enc ys[j]):=by rw[aaa];simp[show j<ys.length by omega]
    have h3:=ih xs[j] (aac bp) ys[j];generalize xs[j]=x at g1 h3 aF;generalize ys[j]=y at g2 h3 aF;conv=>whnf
    refine⟨_,g1,by omega,rfl,?_⟩;conv=>whnf
    refine⟨_,g2,by omega,rfl,?_⟩
    iterate 3
     all_goals(try(conv=>whnf))
     all_goals(first|(intro iK cp ee bf;replace S:=S.alloc ee bf)|(refine aC (S.row 0 rfl) ?_)|(refine⟨_,rfl,rfl,rfl,.inl ⟨_,S.row 0 rfl,rfl,?_⟩⟩;(conv=>whnf);intro cp bf;replace S:=S.w0 bf)|(refine ae (fun hb=>?_) (fun hb=>?_))|(refine⟨_,h3 _,?_⟩)|skip)
    all_goals first
     |exact br (by rw[aF,hb];rfl)
     |exact⟨m-1,by omega,j+1,by omega,aP j (by omega),by rw[aF,hb];rfl⟩
   ·have bp:j=xs.length:=by
     have: ¬j<xs.length:=by simpa using h1
     omega
    subst bp;rw[eN hlen]at aF;conv=>whnf
    exact br aF.symm
theorem Bw(hp:cF pr)(l l':List (List Item))(hl:s7 l):dK pr 70 [.agg [bX.enc l],.agg [bX.enc l']] (.bool (vj l l')):=by
 have h:=zh hp l l' hl.1 fun x hx y=>sZ hp x y (hl.2 x hx);refine kz hp rfl rfl ?_;have S:=aj.nil []
 iterate 9
  all_goals(try(conv=>whnf))
  all_goals(first|(intro iK cp ee bf;replace S:=S.alloc ee bf)|(refine aC (S.row 0 rfl) ?_)|(refine aC (S.row 1 rfl) ?_)|(refine aC (S.row 2 rfl) ?_)|(refine⟨_,rfl,rfl,rfl,.inl ⟨_,S.row 0 rfl,rfl,?_⟩⟩;(conv=>whnf);intro cp bf;replace S:=S.w0 bf)|(refine⟨_,rfl,rfl,rfl,.inl ⟨_,S.row 1 rfl,rfl,?_⟩⟩;(conv=>whnf);intro cp bf;replace S:=S.w1 bf)|(refine⟨_,rfl,rfl,rfl,.inl ⟨_,S.row 2 rfl,rfl,?_⟩⟩;(conv=>whnf);intro cp bf;replace S:=S.w2 bf)|(refine ae (fun hb=>?_) (fun hb=>?_))|(refine⟨_,h _,?_⟩)|skip)
 all_goals exact br hb.symm
theorem IC(hp:cF pr)(xs ys:List (bz))(hl:xs.length<=dB)(ih: ∀x∈xs,∀y,dK pr 37 ([bz.enc x,bz.enc y]) (.bool (gd x y))):
  dK pr 72 [.sl (xs.map bz.enc),.sl (ys.map bz.enc),OB] (.bool (bZ gd xs ys)):=by
   have vM:=hl;unfold dB at vM;refine kz hp rfl rfl ?_;have S:=aj.nil [];conv=>whnf
   refine ae (fun h0=>?_) (fun h0=>?_)
   ·conv=>whnf
    exact br (fg (by simp at h0;omega)).symm
   have hlen:xs.length=ys.length:=by simp at h0;omega
   conv=>whnf
   refine dQ (fun m tm hp=>∃(j:Nat),j+m=xs.length/\tm 17=i64 (j:Nat)/\(bZ gd xs ys=bZ gd (xs.drop j) (ys.drop j))) (fun m tm hq bG hI=>?_) (xs.length) ⟨0,by simp,rfl,(rfl)⟩;obtain⟨j,hj,Gg,aF⟩:=hI;have k0:=bG 0 (by kernel_rfl);conv at k0=>rhs;whnf
   have k1:=bG 1 (by kernel_rfl);conv at k1=>rhs;whnf
   have k2:=bG 2 (by kernel_rfl);conv at k2=>rhs;whnf
   have E9:=bG 15 (by kernel_rfl);conv at E9=>rhs;whnf
   have Fe:=bG 16 (by kernel_rfl);conv at Fe=>rhs;whnf
   refine⟨[(0,_),(1,_),(2,_),(15,_),(16,_),(17,_)],⟨k0,k1,k2,E9,Fe,Gg,trivial⟩,?_⟩;clear bG k0 k1 k2 E9 Fe Gg;have S:aj hq []:=aj.nil hq;conv=>whnf
   refine ae (fun h1=>?_) (fun h1=>?_)
   ·have bp:j<xs.length:=by simpa using h1
    rw[en bp (by omega)]at aF;have g1:(xs.map bz.enc)[((j:Nat):Int).toNat]?=some (bz.enc xs[j]):=by rw[aaa];simp[bp]
    have g2:(ys.map bz.enc)[((j:Nat):Int).toNat]?=some (bz.enc ys[j]):=by rw[aaa];simp[show j<ys.length by omega]
    have h3:=ih xs[j] (aac bp) ys[j];generalize xs[j]=x at g1 h3 aF;generalize ys[j]=y at g2 h3 aF;obtain⟨⟨au,n,⟨tk,pK,⟨t1,t2,t3,t4⟩,⟨t5,t6,t7,t8⟩⟩,cells,a,b,aq,agg,c,ao⟩,l,r,ks⟩:=x;obtain⟨⟨cG,n',⟨uk,Pm,⟨u1,u2,u3,u4⟩,⟨u5,u6,u7,u8⟩⟩,bR,a',b',cH,dE,c',cE⟩,l',r',kC⟩:=y;conv=>whnf
    refine⟨_,g1,by omega,rfl,?_⟩
    iterate 4
     all_goals(try(conv=>whnf))
     all_goals(first|(intro iK cp ee bf;replace S:=S.alloc ee bf)|(refine aC (S.row 0 rfl) ?_)|(refine aC (S.row 1 rfl) ?_)|(refine⟨_,rfl,rfl,rfl,.inl ⟨_,S.row 0 rfl,rfl,?_⟩⟩;(conv=>whnf);intro cp bf;replace S:=S.w0 bf)|(refine⟨_,rfl,rfl,rfl,.inl ⟨_,S.row 1 rfl,rfl,?_⟩⟩;(conv=>whnf);intro cp bf;replace S:=S.w1 bf)|(refine ae (fun hb=>?_) (fun hb=>?_))|skip)
    refine⟨_,g2,by omega,rfl,?_⟩
    iterate 6
     all_goals(try(conv=>whnf))
     all_goals(first|(intro iK cp ee bf;replace S:=S.alloc ee bf)|(refine aC (S.row 0 rfl) ?_)|(refine aC (S.row 1 rfl) ?_)|(refine⟨_,rfl,rfl,rfl,.inl ⟨_,S.row 0 rfl,rfl,?_⟩⟩;(conv=>whnf);intro cp bf;replace S:=S.w0 bf)|(refine⟨_,rfl,rfl,rfl,.inl ⟨_,S.row 1 rfl,rfl,?_⟩⟩;(conv=>whnf);intro cp bf;replace S:=S.w1 bf)|(refine ae (fun hb=>?_) (fun hb=>?_))|(refine⟨_,h3 _,?_⟩)|skip)
    all_goals first
     |exact br (by rw[aF,hb];rfl)
     |exact⟨m-1,by omega,j+1,by omega,aP j (by omega),by rw[aF,hb];rfl⟩
   ·have bp:j=xs.length:=by
     have: ¬j<xs.length:=by simpa using h1
     omega
    subst bp;rw[eN hlen]at aF;conv=>whnf
    exact br aF.symm
theorem ID(hp:cF pr): ∀(N:Nat)(f:bz),SizeOf.sizeOf f<=N->f.d.fA<=1048576-> ∀g,dK pr 37 [f.enc,g.enc] (.bool (gd f g)):=by
 intro N
 induction N with
 |zero=>intro f h;cases f;simp at h
 |succ N ih=>
  intro f jP ht g;obtain⟨p,l,r,ks⟩:=f;obtain⟨p',l',r',kC⟩:=g;rw[jY]at ht;have hl:=Bw hp l l' (eV (by omega));have hr:=Bw hp r r' (eV (by omega));have vD:=uS hp p p' (by unfold aA.small;omega);have hk:=IC hp ks kC (by unfold dB;omega) fun k hk g=>ih k (by have:=abo hk;simp at jP;omega) (by have:=eA (f:=bz.d) hk;omega) g;rw[<-ph,<-bz.jW,<-bz.jW]at hk;clear ih jP ht;generalize hR:gd (.mk p l r ks) (.mk p' l' r' kC)=R;rw[gd]at hR;obtain⟨au,n,⟨tk,pK,⟨t1,t2,t3,t4⟩,⟨t5,t6,t7,t8⟩⟩,cells,a,b,aq,agg,c,ao⟩:=p;obtain⟨cG,n',⟨uk,Pm,⟨u1,u2,u3,u4⟩,⟨u5,u6,u7,u8⟩⟩,bR,a',b',cH,dE,c',cE⟩:=p';refine kz hp rfl rfl ?_;have S:=aj.nil []
  iterate 30
   all_goals(try(conv=>whnf))
   all_goals(first|(intro iK cp ee bf;replace S:=S.alloc ee bf)|(refine aC (S.row 0 rfl) ?_)|(refine aC (S.row 1 rfl) ?_)|(refine aC (S.row 2 rfl) ?_)|(refine⟨_,rfl,rfl,rfl,.inl ⟨_,S.row 0 rfl,rfl,?_⟩⟩;(conv=>whnf);intro cp bf;replace S:=S.w0 bf)|(refine⟨_,rfl,rfl,rfl,.inl ⟨_,S.row 1 rfl,rfl,?_⟩⟩;(conv=>whnf);intro cp bf;replace S:=S.w1 bf)|(refine⟨_,rfl,rfl,rfl,.inl ⟨_,S.row 2 rfl,rfl,?_⟩⟩;(conv=>whnf);intro cp bf;replace S:=S.w2 bf)|(refine ae (fun hb=>?_) (fun hb=>?_))|(refine⟨_,hl _,?_⟩)|(refine⟨_,hr _,?_⟩)|(refine⟨_,vD _,?_⟩)|(refine⟨_,hk _,?_⟩)|skip)
  all_goals exact br (by rw[<-hR];clear hR hl hr vD hk S;simp_all)
theorem Lf(hp:cF pr)(x y:dg)(hz:ij x.out):dK pr 35 [x.enc,y.enc] (.bool (j4 x y)):=by
 have h:=sZ hp x.out y.out hz;generalize hR:j4 x y=R;unfold j4 zY at hR;obtain⟨at1,o1⟩:=x;obtain⟨at2,o2⟩:=y;refine kz hp rfl rfl ?_;have S:=aj.nil []
 iterate 12
  all_goals(try(conv=>whnf))
  all_goals(first|(intro iK cp ee bf;replace S:=S.alloc ee bf)|(refine aC (S.row 0 rfl) ?_)|(refine aC (S.row 1 rfl) ?_)|(refine aC (S.row 2 rfl) ?_)|(refine⟨_,rfl,rfl,rfl,.inl ⟨_,S.row 0 rfl,rfl,?_⟩⟩;(conv=>whnf);intro cp bf;replace S:=S.w0 bf)|(refine⟨_,rfl,rfl,rfl,.inl ⟨_,S.row 1 rfl,rfl,?_⟩⟩;(conv=>whnf);intro cp bf;replace S:=S.w1 bf)|(refine⟨_,rfl,rfl,rfl,.inl ⟨_,S.row 2 rfl,rfl,?_⟩⟩;(conv=>whnf);intro cp bf;replace S:=S.w2 bf)|(refine ae (fun hb=>?_) (fun hb=>?_))|(refine⟨_,h _,?_⟩)|skip)
 all_goals exact br (by rw[<-hR];clear hR h S;simp_all)
theorem IE(hp:cF pr)(xs ys:List (dg))(hl:xs.length<=dB)(ih: ∀x∈xs,∀y,dK pr 35 ([dg.enc x,dg.enc y]) (.bool (j4 x y))):
  dK pr 38 [.sl (xs.map dg.enc),.sl (ys.map dg.enc),tX] (.bool (bZ j4 xs ys)):=by
   have vM:=hl;unfold dB at vM;refine kz hp rfl rfl ?_;have S:=aj.nil [];conv=>whnf
   refine ae (fun h0=>?_) (fun h0=>?_)
   ·conv=>whnf
    exact br (fg (by simp at h0;omega)).symm
   have hlen:xs.length=ys.length:=by simp at h0;omega
   conv=>whnf
   refine dQ (fun m tm hp=>∃(j:Nat),j+m=xs.length/\tm 17=i64 (j:Nat)/\(bZ j4 xs ys=bZ j4 (xs.drop j) (ys.drop j))) (fun m tm hq bG hI=>?_) (xs.length) ⟨0,by simp,rfl,(rfl)⟩;obtain⟨j,hj,Gg,aF⟩:=hI;have k0:=bG 0 (by kernel_rfl);conv at k0=>rhs;whnf
   have k1:=bG 1 (by kernel_rfl);conv at k1=>rhs;whnf
   have k2:=bG 2 (by kernel_rfl);conv at k2=>rhs;whnf
   have E9:=bG 15 (by kernel_rfl);conv at E9=>rhs;whnf
   have Fe:=bG 16 (by kernel_rfl);conv at Fe=>rhs;whnf
   refine⟨[(0,_),(1,_),(2,_),(15,_),(16,_),(17,_)],⟨k0,k1,k2,E9,Fe,Gg,trivial⟩,?_⟩;clear bG k0 k1 k2 E9 Fe Gg;have S:aj hq []:=aj.nil hq;conv=>whnf
   refine ae (fun h1=>?_) (fun h1=>?_)
   ·have bp:j<xs.length:=by simpa using h1
    rw[en bp (by omega)]at aF;have g1:(xs.map dg.enc)[((j:Nat):Int).toNat]?=some (dg.enc xs[j]):=by rw[aaa];simp[bp]
    have g2:(ys.map dg.enc)[((j:Nat):Int).toNat]?=some (dg.enc ys[j]):=by rw[aaa];simp[show j<ys.length by omega]
    have h3:=ih xs[j] (aac bp) ys[j];generalize xs[j]=x at g1 h3 aF;generalize ys[j]=y at g2 h3 aF;obtain⟨at1,o1⟩:=x;obtain⟨at2,o2⟩:=y;conv=>whnf
    refine⟨_,g1,by omega,rfl,?_⟩
    iterate 4
     all_goals(try(conv=>whnf))
     all_goals(first|(intro iK cp ee bf;replace S:=S.alloc ee bf)|(refine aC (S.row 0 rfl) ?_)|(refine aC (S.row 1 rfl) ?_)|(refine⟨_,rfl,rfl,rfl,.inl ⟨_,S.row 0 rfl,rfl,?_⟩⟩;(conv=>whnf);intro cp bf;replace S:=S.w0 bf)|(refine⟨_,rfl,rfl,rfl,.inl ⟨_,S.row 1 rfl,rfl,?_⟩⟩;(conv=>whnf);intro cp bf;replace S:=S.w1 bf)|(refine ae (fun hb=>?_) (fun hb=>?_))|skip)
    refine⟨_,g2,by omega,rfl,?_⟩
    iterate 6
     all_goals(try(conv=>whnf))
     all_goals(first|(intro iK cp ee bf;replace S:=S.alloc ee bf)|(refine aC (S.row 0 rfl) ?_)|(refine aC (S.row 1 rfl) ?_)|(refine⟨_,rfl,rfl,rfl,.inl ⟨_,S.row 0 rfl,rfl,?_⟩⟩;(conv=>whnf);intro cp bf;replace S:=S.w0 bf)|(refine⟨_,rfl,rfl,rfl,.inl ⟨_,S.row 1 rfl,rfl,?_⟩⟩;(conv=>whnf);intro cp bf;replace S:=S.w1 bf)|(refine ae (fun hb=>?_) (fun hb=>?_))|(refine⟨_,h3 _,?_⟩)|skip)
    all_goals first
     |exact br (by rw[aF,hb];rfl)
     |exact⟨m-1,by omega,j+1,by omega,aP j (by omega),by rw[aF,hb];rfl⟩
   ·have bp:j=xs.length:=by
     have: ¬j<xs.length:=by simpa using h1
     omega
    subst bp;rw[eN hlen]at aF;conv=>whnf
    exact br aF.symm
theorem Lg(hp:cF pr)(x y:View)(ht:x.d.fA<=1048576):dK pr 36 ([x.enc,y.enc]++[.fQ [tX] 0 0]) (.bool (iC x y)):=by
 rw[nk]at ht;have h1:=ID hp _ x.hU (aah _) (by omega) y.hU;have h2:=sZ hp x.base y.base (j0 (by omega));have h3:=IE hp x.aZ y.aZ (by unfold dB;omega) fun p UP q=>Lf hp p q (lq (by omega) p UP);clear ht;generalize hR:iC x y=R;unfold iC zY at hR;obtain⟨⟨⟨au,n,⟨tk,pK,⟨t1,t2,t3,t4⟩,⟨t5,t6,t7,t8⟩⟩,cells,a,b,aq,agg,c,ao⟩,l,r,ks⟩,bO,base,aZ⟩:=x;obtain⟨⟨⟨cG,n',⟨uk,Pm,⟨u1,u2,u3,u4⟩,⟨u5,u6,u7,u8⟩⟩,bR,a',b',cH,dE,c',cE⟩,l',r',kC⟩,Fl,MQ,mg⟩:=y;simp only at hR;refine kz hp rfl rfl ?_;have S:=aj.nil []
 iterate 30
  all_goals(try(conv=>whnf))
  all_goals(first|(intro iK cp ee bf;replace S:=S.alloc ee bf)|(refine aC (S.row 0 rfl) ?_)|(refine aC (S.row 1 rfl) ?_)|(refine aC (S.row 2 rfl) ?_)|(refine⟨_,rfl,rfl,rfl,.inl ⟨_,S.row 0 rfl,rfl,?_⟩⟩;(conv=>whnf);intro cp bf;replace S:=S.w0 bf)|(refine⟨_,rfl,rfl,rfl,.inl ⟨_,S.row 1 rfl,rfl,?_⟩⟩;(conv=>whnf);intro cp bf;replace S:=S.w1 bf)|(refine⟨_,rfl,rfl,rfl,.inl ⟨_,S.row 2 rfl,rfl,?_⟩⟩;(conv=>whnf);intro cp bf;replace S:=S.w2 bf)|(refine ae (fun hb=>?_) (fun hb=>?_))|(refine⟨_,h1 _,?_⟩)|(refine⟨_,h2 _,?_⟩)|(refine⟨_,h3 _,?_⟩)|skip)
 all_goals exact br (by rw[<-hR];clear hR h1 h2 h3 S;simp_all)
theorem IF(hp:cF pr)(xs ys:List (View))(hl:xs.length<=dB)(ih: ∀x∈xs,∀y,dK pr 36 ([View.enc x,View.enc y]++[.fQ [tX] 0 0]) (.bool (iC x y))):
  dK pr 41 [.sl (xs.map View.enc),.sl (ys.map View.enc),OC] (.bool (bZ iC xs ys)):=by
   have vM:=hl;unfold dB at vM;refine kz hp rfl rfl ?_;have S:=aj.nil [];conv=>whnf
   refine ae (fun h0=>?_) (fun h0=>?_)
   ·conv=>whnf
    exact br (fg (by simp at h0;omega)).symm
   have hlen:xs.length=ys.length:=by simp at h0;omega
   conv=>whnf
   refine dQ (fun m tm hp=>∃(j:Nat),j+m=xs.length/\tm 17=i64 (j:Nat)/\(bZ iC xs ys=bZ iC (xs.drop j) (ys.drop j))) (fun m tm hq bG hI=>?_) (xs.length) ⟨0,by simp,rfl,(rfl)⟩;obtain⟨j,hj,Gg,aF⟩:=hI;have k0:=bG 0 (by kernel_rfl);conv at k0=>rhs;whnf
   have k1:=bG 1 (by kernel_rfl);conv at k1=>rhs;whnf
   have k2:=bG 2 (by kernel_rfl);conv at k2=>rhs;whnf
   have E9:=bG 15 (by kernel_rfl);conv at E9=>rhs;whnf
   have Fe:=bG 16 (by kernel_rfl);conv at Fe=>rhs;whnf
   refine⟨[(0,_),(1,_),(2,_),(15,_),(16,_),(17,_)],⟨k0,k1,k2,E9,Fe,Gg,trivial⟩,?_⟩;clear bG k0 k1 k2 E9 Fe Gg;have S:aj hq []:=aj.nil hq;conv=>whnf
   refine ae (fun h1=>?_) (fun h1=>?_)
   ·have bp:j<xs.length:=by simpa using h1
    rw[en bp (by omega)]at aF;have g1:(xs.map View.enc)[((j:Nat):Int).toNat]?=some (View.enc xs[j]):=by rw[aaa];simp[bp]
    have g2:(ys.map View.enc)[((j:Nat):Int).toNat]?=some (View.enc ys[j]):=by rw[aaa];simp[show j<ys.length by omega]
    have h3:=ih xs[j] (aac bp) ys[j];generalize xs[j]=x at g1 h3 aF;generalize ys[j]=y at g2 h3 aF;obtain⟨⟨⟨au,n,⟨tk,pK,⟨t1,t2,t3,t4⟩,⟨t5,t6,t7,t8⟩⟩,cells,a,b,aq,agg,c,ao⟩,l,r,ks⟩,bO,base,aZ⟩:=x;obtain⟨⟨⟨cG,n',⟨uk,Pm,⟨u1,u2,u3,u4⟩,⟨u5,u6,u7,u8⟩⟩,bR,a',b',cH,dE,c',cE⟩,l',r',kC⟩,Fl,MQ,mg⟩:=y;conv=>whnf
    refine⟨_,g1,by omega,rfl,?_⟩
    iterate 4
     all_goals(try(conv=>whnf))
     all_goals(first|(intro iK cp ee bf;replace S:=S.alloc ee bf)|(refine aC (S.row 0 rfl) ?_)|(refine aC (S.row 1 rfl) ?_)|(refine⟨_,rfl,rfl,rfl,.inl ⟨_,S.row 0 rfl,rfl,?_⟩⟩;(conv=>whnf);intro cp bf;replace S:=S.w0 bf)|(refine⟨_,rfl,rfl,rfl,.inl ⟨_,S.row 1 rfl,rfl,?_⟩⟩;(conv=>whnf);intro cp bf;replace S:=S.w1 bf)|(refine ae (fun hb=>?_) (fun hb=>?_))|skip)
    refine⟨_,g2,by omega,rfl,?_⟩
    iterate 6
     all_goals(try(conv=>whnf))
     all_goals(first|(intro iK cp ee bf;replace S:=S.alloc ee bf)|(refine aC (S.row 0 rfl) ?_)|(refine aC (S.row 1 rfl) ?_)|(refine⟨_,rfl,rfl,rfl,.inl ⟨_,S.row 0 rfl,rfl,?_⟩⟩;(conv=>whnf);intro cp bf;replace S:=S.w0 bf)|(refine⟨_,rfl,rfl,rfl,.inl ⟨_,S.row 1 rfl,rfl,?_⟩⟩;(conv=>whnf);intro cp bf;replace S:=S.w1 bf)|(refine ae (fun hb=>?_) (fun hb=>?_))|(refine⟨_,h3 _,?_⟩)|skip)
    all_goals first
     |exact br (by rw[aF,hb];rfl)
     |exact⟨m-1,by omega,j+1,by omega,aP j (by omega),by rw[aF,hb];rfl⟩
   ·have bp:j=xs.length:=by
     have: ¬j<xs.length:=by simpa using h1
     omega
    subst bp;rw[eN hlen]at aF;conv=>whnf
    exact br aF.symm
theorem mh(hp:cF pr)(x y:bN)(ht:x.d.fA<=1048576):dK pr 13 [x.enc,y.enc] (.bool (gZ x y)):=by
 rw[eK]at ht;have h1:=Hx hp x.bc y.bc (by omega);have hr:=eV (l:=x.aH) (by omega);have h2:=zh hp x.aH y.aH hr.1 fun z hz w=>sZ hp z w (hr.2 z hz);have h3:=IF hp x.aL y.aL (by unfold dB;omega) fun v hv w=>Lg hp v w (by have:=eA (f:=View.d) hv;omega);clear ht hr;generalize hR:gZ x y=R;unfold gZ at hR;obtain⟨bc,aH,aL,now,keep⟩:=x;obtain⟨vl,rN,vn,IG,DR⟩:=y;simp only at hR;refine kz hp rfl rfl ?_;have S:=aj.nil []
 iterate 24
  all_goals(try(conv=>whnf))
  all_goals(first|(intro iK cp ee bf;replace S:=S.alloc ee bf)|(refine aC (S.row 0 rfl) ?_)|(refine aC (S.row 1 rfl) ?_)|(refine aC (S.row 2 rfl) ?_)|(refine aC (S.row 3 rfl) ?_)|(refine⟨_,rfl,rfl,rfl,.inl ⟨_,S.row 0 rfl,rfl,?_⟩⟩;(conv=>whnf);intro cp bf;replace S:=S.w0 bf)|(refine⟨_,rfl,rfl,rfl,.inl ⟨_,S.row 1 rfl,rfl,?_⟩⟩;(conv=>whnf);intro cp bf;replace S:=S.w1 bf)|(refine⟨_,rfl,rfl,rfl,.inl ⟨_,S.row 2 rfl,rfl,?_⟩⟩;(conv=>whnf);intro cp bf;replace S:=S.w2 bf)|(refine⟨_,rfl,rfl,rfl,.inl ⟨_,S.row 3 rfl,rfl,?_⟩⟩;(conv=>whnf);intro cp bf;replace S:=S.w3 bf)|(refine ae (fun hb=>?_) (fun hb=>?_))|(refine⟨_,h1 _,?_⟩)|(refine⟨_,h2 _,?_⟩)|skip)
 all_goals(try(exact br (by rw[<-hR];clear hR h1 h2 h3 S;simp_all)))
 refine⟨_,h3.here (args:=[_,_,_]) (bu rfl (bu rfl (bu (yd (S.row 0 rfl) rfl) (dM _)))) rfl rfl,?_⟩
 iterate 2
  all_goals(try(conv=>whnf))
  all_goals(first|(intro iK cp ee bf;replace S:=S.alloc ee bf)|(refine aC (S.row 0 rfl) ?_)|(refine⟨_,rfl,rfl,rfl,.inl ⟨_,S.row 0 rfl,rfl,?_⟩⟩;(conv=>whnf);intro cp bf;replace S:=S.w0 bf)|(refine ae (fun hb=>?_) (fun hb=>?_))|skip)
 all_goals exact br (by rw[<-hR];clear hR h1 h2 h3 S;simp_all)
end Go.Proofs.YtfepbikckfehlaaGreat

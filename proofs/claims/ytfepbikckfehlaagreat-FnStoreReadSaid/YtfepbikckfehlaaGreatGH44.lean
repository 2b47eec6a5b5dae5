/- EXACTLY THE RETAINED EPOCHS CAN BE READ: OF A DRAWN STORE A VIEW CAN BE READ AT JUST THE TIMES THAT ARE KEPT, FOR ALL INPUTS. No condition. -/
import Derived.Test.YtfepbikckfehlaaGreatGH43
import Derived.Test.YtfepbikckfehlaaGreatGH32
import Derived.ProofKit
set_option linter.unusedVariables false
set_option linter.unusedSimpArgs false
set_option maxHeartbeats 4000000
namespace Go.Proofs.YtfepbikckfehlaaGreat
open Go Go.Am
theorem Sr(w:Int)(z:List Item):(decide (1<=w)&&(decide (w<=6)&&rR z w))=AX w z:=by
 unfold AX
 congr 2
 unfold rR mw
 cases hz:c7 z with
 |false=>simp
 |true=>
  simp only[Bool.and_true,aX];have hw:=K4 hz;clear hz
  induction z with
  |nil=>rfl
  |cons x xs ih=>
   have h1:=hw x (by simp);have:=ih fun y hy=>hw y (by simp[hy]);simp only[List.all_cons,List.any_cons,this,Bool.not_or]
   have e:(!decide (x.w<0))=decide (1<=x.w):=by
    by_cases h:x.w<0
    ·have: ¬1<=x.w:=by omega
     simp[h,this]
    ·have:1<=x.w:=by omega
     simp[h,this]
   rw[e];cases decide (1<=x.w)<;>cases decide ((x.row.length:Int)=w)<;>simp
theorem Lm: ∀(ws:List Int)(ts:List (List Item)),iw ws ts=lH ts ws
 | [],[]=>rfl
 | [],_::_=>rfl
 |_::_,[]=>rfl
 |w::ws,t::ts=>by simp only[iw,lH,Sr,Lm ws ts]
theorem AZ(lo now wide:Int): ∀(ps:List cC)(q:Option Int)(L:Int),(match q with|none=>L=lo|some x=>L=x/\lo<x)->dG lo now wide q ps=jC now wide L ps
 | [],q,L,h=>by simp[dG,jC]
 |p::ps,none,L,h=>by
  simp only at h;subst h;simp only[dG,jC,iv]
  by_cases h1:L<p.cA
  ·rw[AZ L now wide ps (some p.cA) p.cA ⟨rfl,h1⟩];cases c7 p.out<;>cases mw p.out wide<;>cases decide (p.cA<=now)<;>simp
  ·simp[h1]
 |p::ps,some x,L,h=>by
  obtain⟨rfl,h2⟩:=h;simp only[dG,jC,iv]
  by_cases h3:L<p.cA
  ·have h1:lo<p.cA:=by omega
   rw[AZ lo now wide ps (some p.cA) p.cA ⟨rfl,h1⟩];simp only[h1,h3,decide_true,aX];cases c7 p.out<;>cases mw p.out wide<;>cases decide (p.cA<=now)<;>simp
  ·simp[h3]
theorem Ss(ws:List Int)(now keep:Int)(v:View):gh ws now keep v=fD ws now keep v:=by
 unfold gh fD AY wK;rw[MT,xQ]
 have yp:(if keep>v.bF then keep else v.bF)=(if v.bF>keep then v.bF else keep):=by
  split<;>split<;>omega
 rw[yp,AZ _ now _ v.aZ none _ rfl]
 have hw:(!(fq v.fM.dx ws== -1))=decide (1<=fq v.fM.dx ws):=by
  have:fq v.fM.dx ws= -1∨1<=fq v.fM.dx ws:=by
   unfold fq;split
   ·rcases xP ws v.fM.dx with h|h
    ·exact .inl h
    ·exact .inr h.1
   ·exact .inl rfl
  rcases this with h|h
  ·rw[h];rfl
  ·have:fq v.fM.dx ws≠ -1:=by omega
   simp[h,this]
 rw[hw]
 congr 4
 unfold iv;cases c7 v.base<;>cases mw v.base (fq v.fM.dx ws)<;>simp
theorem Qu(s:bJ):kR s=cu s:=by
 unfold kR cu;rw[Lm]
 have hv:(!s.aK.any fun v=>!gh s.bc s.now s.keep v)=s.aK.all (fD s.bc s.now s.keep):=by
  rw[List.not_any_eq_all_not]
  congr 1
  funext v
  rw[Bool.not_not,Ss]
 rw[hv]
 by_cases h1:s.aF.length=s.bc.length
 ·simp[h1]
 ·have h2: ¬s.bc.length=s.aF.length:=fun e=>h1 e.symm;simp[h1,h2]
theorem A0(cA:Int): ∀(ps:List cC)(z:List Item),(∀p∈ps,c7 p.out=true)->j5 z->HG cA z ps=jP cA z ps
 | [],z,_,_=>rfl
 |p::ps,z,hp,hz=>by
  have h1:=hp p (by simp);simp only[HG,jP];rw[Cm hz h1];split
  ·exact A0 cA ps _ (fun q hq=>hp q (by simp[hq])) (Ai hz _)
  ·exact A0 cA ps _ (fun q hq=>hp q (by simp[hq])) hz
theorem Su(s:bJ)(view cA:Int):CB s view cA=jx s view cA:=by
 unfold CB jx;have hv:=@qG s;rw[Qu]
 cases dt:cu s with
 |false=>rfl
 |true=>
  rw[dt]at hv;simp only[Bool.not_true,Bool.false_eq_true,if_false];split
  ·rfl
  ·cases hg:s.aK[view.toNat]? with
   |none=>rfl
   |some v=>
    simp only;obtain⟨z1,z2,_⟩:=pJ (hv rfl v (aV hg));rw[A0 cA v.aZ v.base z2 (pG z1)]
    have hm:(decide (cA<s.keep)||decide (cA<v.bF))=decide (cA<(if s.keep>v.bF then s.keep else v.bF)):=by
     by_cases h:s.keep>v.bF
     ·rw[if_pos h]
      by_cases h2:cA<s.keep
      ·simp[h2]
      ·have: ¬cA<v.bF:=by omega
       simp[h2,this]
     ·rw[if_neg h]
      by_cases h2:cA<v.bF
      ·simp[h2]
      ·have: ¬cA<s.keep:=by omega
       simp[h2,this]
    have ht: ∀z:List Item,(if(uO z).2=true then((uO z).1,(0:Int))else([],5))=if c7 z=true then(z,0)else([],5):=fun z=>by
     unfold uO
     by_cases h:c7 z=true<;>simp[h]
    rw[hm,ht]
end Go.Proofs.YtfepbikckfehlaaGreat
set_option maxHeartbeats 4000000
set_option pp.deepTerms false
set_option pp.deepTerms.threshold 60
namespace Go.Proofs.YtfepbikckfehlaaGreat
open Go Go.Am
set_option maxRecDepth 100000
theorem Nd{s:bJ}(view cA:Int)(h:cu s=false):jx s view cA=([],6):=by
 unfold jx;rw[h];rfl
theorem J2{s:bJ}{view cA:Int}(h:cu s=true)(hv:view<0∨view>=s.aK.length∨cA>s.now):jx s view cA=([],1):=by
 unfold jx;rw[h,if_neg (by simp),if_pos (by simpa using hv)]
theorem Nf{w cA:Int}{v:View}{lo now:Int}(hb:iv v.base w=true)(hp:dG lo now w none v.aZ=true):dH w (jP cA v.base v.aZ):=
 AP (jT.1 hb).1 fun p SY=>(jT.1 (oF hp p SY)).1
theorem J3{s:bJ}{view cA:Int}{v:View}(h:cu s=true)(hv: ¬view<0)(hw: ¬view>=s.aK.length)(ha: ¬cA>s.now)(hg:s.aK[view.toNat]?=some v):
  ((cA<s.keep∨cA<v.bF)->jx s view cA=([],4))/\(¬(cA<s.keep∨cA<v.bF)->(jx s view cA).2≠4/\dH (fq v.fM.dx s.bc) (jx s view cA).1/\((jx s view cA).2=0/\c7 (jx s view cA).1=true∨(jx s view cA).1=[])):=by
   have h1:=(dW.1 h).2.2.2.2.2.2.2 v (aV hg);obtain⟨_,_,_,_,h5,_,h7⟩:=fH.1 h1;rw[xQ]at h5 h7;unfold jx;rw[h,if_neg (by simp),if_neg (by simp;omega),hg];dsimp only;refine⟨fun eH=>?_,fun eH=>?_⟩
   ·rw[if_pos (by simp only[decide_eq_true_iff];split<;>omega)]
   ·rw[if_neg (by simp only[decide_eq_true_iff];split<;>omega)];split
    ·rename_i hz;exact⟨by simp,Nf h5 h7,.inl ⟨rfl,hz⟩⟩
    ·exact⟨by simp,pI _,.inr rfl⟩
theorem Hz(s:bJ)(view cA:Int):c7 (jx s view cA).1=true:=by
 unfold jx;have h0:c7 []=true:=rfl
 repeat' split
 all_goals first|exact h0|assumption
theorem vC{α:Type}{f:α->α->Bool}(hf: ∀x,f x x=true): ∀l:List α,cG f l l=true
 | []=>rfl
 |x::xs=>by simp[cG,hf x,vC hf xs]
theorem HA(x:Item):qg x x=true:=by
 unfold qg;rw[beq_self_eq_true,aX,oy]
variable{pr:bL}
theorem Qv{h:aC}{A:List Item}{ws:List af}{F:List Nat}{j:Nat}(hj:j<A.length)(ho:bZ h (A.map Item.d) ws F): ∃P F1,ws[j]?=some (.agg [P,i64 A[j].w])/\bP h (gq.d A[j].row) P F1:=by
 have e:A.map Item.d=(A.take j).map Item.d++Item.d A[j]::(A.drop (j+1)).map Item.d:=by
  rw[<-aM,<-ar hj,<-bd,List.take_append_drop]
 rw[e]at ho;obtain⟨v,F1,h1,h2⟩:=bZ.at ho;obtain⟨P,rfl,h3⟩:=Item.open h2;exact⟨P,F1,by simpa[Nat.min_eq_left (Nat.le_of_lt hj)]using h1,h3⟩
theorem Bt(hk:B8 pr)(bs:List Int)(hb: ∀b∈bs,0<=b/\b<256): ∃h,call (du pr) 3 [.sl (bs.map u8)] []=some (.ret (.bool true) h):=by
 have hp:=hk.tobV
 suffices hw:wv (du pr) 3 [.sl (bs.map u8)] [] (fun r=>∃h,r= .ret (.bool true) h) by
  obtain⟨r,hr,h,rfl⟩:=cS (hp.out _ rfl) hw;exact⟨h,hr⟩
 have S:ah [] []:=ah.nil [];conv=>whnf
 rw[aO];refine ae (fun g1=>?_) (fun g1=>?_)
 ·conv=>whnf
  exact⟨_,rfl,_,rfl⟩
 obtain⟨s,view,cA,hs,hd⟩:=Qs hp bs hb (by simp at g1;omega);have ht:s.d.eX<=1048576:=by have:=hs.1;omega
 have c1:=D6 hk s view cA ht;have c2:=DU hp s view cA ht;rw[Su]at c1;have c3:=jS hp s ht
 have c4: ∀v∈s.aK,dm pr 10 [v.fM.dx.enc,.sl (s.bc.map i64)] (i64 (fq v.fM.dx s.bc)):=fun v hv=>by
  have h1:=d5 s;have h2:=ed (f:=View.d) hv;have h3:=nD v
  have h5:v.fM.dx.sz<=v.fM.d.eX:=by
   obtain⟨⟨p,l,r,ks⟩,_,_,_⟩:=v;have h4:=jv (p:=p) (l:=l) (r:=r) (ks:=ks);simp only[bA.dx];omega
  exact xO hk v.fM.dx s.bc (by unfold ax.small;omega) (by omega)
 have mY: ∀h:aC,cj h [s.enc,i64 view,i64 cA]=some [s.enc,i64 view,i64 cA]:=fun h=>rfl;have fC:=@Nd s view cA;have xW:=@J2 s view cA;have BM:=@J3 s view cA;have sU:gi (jx s view cA).1:=cF (Hz s view cA);have Bd:=(cE (Hz s view cA)).1;rcases hr:jx s view cA with⟨z,code⟩;rw[hr]at c1 c2 fC xW BM sU Bd;simp only at c1 c2 BM sU Bd;have c5:=Ph hp z z sU;have c6:=rE hp z sU;rw[show cG qg z z=true from vC HA z]at c5;clear hr hp;obtain⟨bc,aF,aK,now,keep⟩:=s;conv=>whnf
 refine⟨_,hd _,?_⟩;conv=>whnf
 intro k1 a1 dw dC;replace S:=S.alloc dw dC;conv=>whnf
 refine⟨_,rfl,rfl,rfl,.inl ⟨_,S.row 0 rfl,rfl,?_⟩⟩;conv=>whnf
 intro a2 XJ;replace S:=S.w0 XJ;conv=>whnf
 refine aI (S.row 0 rfl) ?_;conv=>whnf
 refine gA S c1 rfl (mY _) fun vs q F S1=>?_;obtain⟨va,Fa,rfl,S2⟩:=ah.xz S1;clear S1 S;conv=>whnf
 refine aI (S2.row 1 rfl) ?_;conv=>whnf
 refine gA S2 c2 rfl (mY _) fun vs q2 F S1=>?_;obtain⟨vb,Fb,rfl,S3⟩:=ah.xz S1;clear S1 S2;conv=>whnf
 refine bf (show(code != code)=false by simp) ?_;conv=>whnf
 refine⟨_,c5.here (jI (aE.fU (S3.get 1 rfl)) (aE.fU (S3.get 0 rfl))) rfl rfl,?_⟩;replace S3:=S3.drop 0;dsimp only[List.eraseIdx]at S3;clear c1 c2 c5 hd;conv=>whnf
 refine aI (S3.row 1 rfl) ?_;conv=>whnf
 refine⟨_,c3 _,?_⟩
 cases dt:cu ⟨bc,aF,aK,now,keep⟩with
 |false=>
  obtain⟨rfl,rfl⟩:=Prod.mk.inj (fC dt);conv=>whnf
  exact⟨_,rfl,_,rfl⟩
 |true=>
  replace xW:=xW dt;have Qw:=fun{v}=>@BM v dt;clear BM fC c3;conv=>whnf
  refine ae (fun g2=>?_) (fun g2=>?_)
  ·obtain⟨rfl,rfl⟩:=Prod.mk.inj (xW (.inl (by simpa using g2)));conv=>whnf
   exact⟨_,rfl,_,rfl⟩
  conv=>whnf
  refine aI (S3.row 1 rfl) ?_;conv=>whnf
  rw[aO];refine ae (fun g3=>?_) (fun g3=>?_)
  ·obtain⟨rfl,rfl⟩:=Prod.mk.inj (xW (.inr (.inl (by simpa using g3))));conv=>whnf
   exact⟨_,rfl,_,rfl⟩
  conv=>whnf
  refine aI (S3.row 1 rfl) ?_;conv=>whnf
  refine ae (fun g4=>?_) (fun g4=>?_)
  ·obtain⟨rfl,rfl⟩:=Prod.mk.inj (xW (.inr (.inr (by simpa using g4))));conv=>whnf
   exact⟨_,rfl,_,rfl⟩
  have wh:view.toNat<aK.length:=by simp at g2 g3;omega
  have hgv:aK[view.toNat]?=some aK[view.toNat]:=au wh;obtain⟨QH,oH⟩:=Qw (by simpa using g2) (by simpa using g3) (by simpa using g4) hgv;have c4:=c4 _ (ay wh);have cx:(aK.map View.enc)[view.toNat]?=some (View.enc aK[view.toNat]):=by simp[wh]
  clear Qw hgv;generalize aK[view.toNat]=v at QH oH c4 cx;dsimp only at c4 QH oH;generalize fq v.fM.dx bc=wd at c4 QH oH;obtain⟨⟨⟨aw,pn,⟨tk,qP,⟨t1,t2,t3,t4⟩,⟨t5,t6,t7,t8⟩⟩,cells,pa,pb,ao,agg,col,al⟩,l,r,ks⟩,bF,base,aZ⟩:=v;conv=>whnf
  refine aI (S3.row 1 rfl) ?_;conv=>whnf
  refine ae (fun g5=>?_) (fun g5=>?_)
  ·obtain⟨rfl,rfl⟩:=Prod.mk.inj (QH (.inl (by simpa using g5)));conv=>whnf
   refine aI (S3.row 1 rfl) ?_;conv=>whnf
   refine⟨_,cx,by simp at g2;omega,rfl,?_⟩;conv=>whnf
   refine aI (S3.row 1 rfl) ?_;conv=>whnf
   refine⟨_,c4 _,?_⟩;clear c4 cx;conv=>whnf
   rcases ah.open S3 with⟨VK,hv,_⟩|⟨id,ws,Fs,rfl,rfl,_⟩
   ·rcases hv with rfl|rfl
    all_goals
     conv=>whnf
     refine dh (fun m tm hp=>∃(j:Nat),j+m=0/\tm 12=i64 (j:Nat)) (fun m tm hq bz hI=>?_) (0) ⟨0,by simp,rfl⟩;obtain⟨j,hj,qN⟩:=hI;have k6:=bz 6 (by kernel_rfl);conv at k6=>rhs;whnf
     have k7:=bz 7 (by kernel_rfl);conv at k7=>rhs;whnf
     have qi:=bz 11 (by kernel_rfl);conv at qi=>rhs;whnf
     refine⟨[(6,_),(7,_),(11,_),(12,_)],⟨k6,k7,qi,qN,trivial⟩,?_⟩;clear bz k6 k7 qi qN;have S:ah hq []:=ah.nil hq;conv=>whnf
     have KR:j=0:=by omega
     subst KR;conv=>whnf
     exact⟨_,rfl,_,rfl⟩
   ·conv=>whnf
    refine dh (fun m tm hp=>∃(j:Nat),j+m=0/\tm 12=i64 (j:Nat)) (fun m tm hq bz hI=>?_) (0) ⟨0,by simp,rfl⟩;obtain⟨j,hj,qN⟩:=hI;have k6:=bz 6 (by kernel_rfl);conv at k6=>rhs;whnf
    have k7:=bz 7 (by kernel_rfl);conv at k7=>rhs;whnf
    have qi:=bz 11 (by kernel_rfl);conv at qi=>rhs;whnf
    refine⟨[(6,_),(7,_),(11,_),(12,_)],⟨k6,k7,qi,qN,trivial⟩,?_⟩;clear bz k6 k7 qi qN;have S:ah hq []:=ah.nil hq;conv=>whnf
    have KR:j=0:=by omega
    subst KR;conv=>whnf
    exact⟨_,rfl,_,rfl⟩
  ·conv=>whnf
   refine aI (S3.row 1 rfl) ?_;conv=>whnf
   refine⟨_,cx,by simp at g2;omega,rfl,?_⟩;conv=>whnf
   refine ae (fun g6=>?_) (fun g6=>?_)
   ·obtain⟨rfl,rfl⟩:=Prod.mk.inj (QH (.inr (by simpa using g6)));conv=>whnf
    refine aI (S3.row 1 rfl) ?_;conv=>whnf
    refine⟨_,cx,by simp at g2;omega,rfl,?_⟩;conv=>whnf
    refine aI (S3.row 1 rfl) ?_;conv=>whnf
    refine⟨_,c4 _,?_⟩;clear c4 cx;conv=>whnf
    rcases ah.open S3 with⟨VK,hv,_⟩|⟨id,ws,Fs,rfl,rfl,_⟩
    ·rcases hv with rfl|rfl
     all_goals
      conv=>whnf
      refine dh (fun m tm hp=>∃(j:Nat),j+m=0/\tm 12=i64 (j:Nat)) (fun m tm hq bz hI=>?_) (0) ⟨0,by simp,rfl⟩;obtain⟨j,hj,qN⟩:=hI;have k6:=bz 6 (by kernel_rfl);conv at k6=>rhs;whnf
      have k7:=bz 7 (by kernel_rfl);conv at k7=>rhs;whnf
      have qi:=bz 11 (by kernel_rfl);conv at qi=>rhs;whnf
      refine⟨[(6,_),(7,_),(11,_),(12,_)],⟨k6,k7,qi,qN,trivial⟩,?_⟩;clear bz k6 k7 qi qN;have S:ah hq []:=ah.nil hq;conv=>whnf
      have KR:j=0:=by omega
      subst KR;conv=>whnf
      exact⟨_,rfl,_,rfl⟩
    ·conv=>whnf
     refine dh (fun m tm hp=>∃(j:Nat),j+m=0/\tm 12=i64 (j:Nat)) (fun m tm hq bz hI=>?_) (0) ⟨0,by simp,rfl⟩;obtain⟨j,hj,qN⟩:=hI;have k6:=bz 6 (by kernel_rfl);conv at k6=>rhs;whnf
     have k7:=bz 7 (by kernel_rfl);conv at k7=>rhs;whnf
     have qi:=bz 11 (by kernel_rfl);conv at qi=>rhs;whnf
     refine⟨[(6,_),(7,_),(11,_),(12,_)],⟨k6,k7,qi,qN,trivial⟩,?_⟩;clear bz k6 k7 qi qN;have S:ah hq []:=ah.nil hq;conv=>whnf
     have KR:j=0:=by omega
     subst KR;conv=>whnf
     exact⟨_,rfl,_,rfl⟩
   ·obtain⟨Sb,aaO,fR⟩:=oH (by simp at g5 g6⊢;omega);conv=>whnf
    refine bf (show(code==4)=false by simpa using Sb) ?_;conv=>whnf
    refine aI (S3.row 1 rfl) ?_;conv=>whnf
    refine⟨_,cx,by simp at g2;omega,rfl,?_⟩;conv=>whnf
    refine aI (S3.row 1 rfl) ?_;conv=>whnf
    refine⟨_,c4 _,?_⟩;clear c4 cx;conv=>whnf
    rcases fR with⟨rfl,XK⟩|rfl
    ·rcases ah.open S3 with⟨VK,hv,_⟩|⟨id,ws,Fs,rfl,rfl,_⟩
     ·have tL:z=[]:=List.map_eq_nil_iff.1 VK;subst tL;rcases hv with rfl|rfl
      all_goals
       conv=>whnf
       refine dh (fun m tm hp=>∃(j:Nat),j+m=0/\tm 12=i64 (j:Nat)) (fun m tm hq bz hI=>?_) (0) ⟨0,by simp,rfl⟩;obtain⟨j,hj,qN⟩:=hI;have k6:=bz 6 (by kernel_rfl);conv at k6=>rhs;whnf
       have k7:=bz 7 (by kernel_rfl);conv at k7=>rhs;whnf
       have qi:=bz 11 (by kernel_rfl);conv at qi=>rhs;whnf
       refine⟨[(6,_),(7,_),(11,_),(12,_)],⟨k6,k7,qi,qN,trivial⟩,?_⟩;clear bz k6 k7 qi qN;have S:ah hq []:=ah.nil hq;conv=>whnf
       have KR:j=0:=by omega
       subst KR;conv=>whnf
       refine⟨_,c6.here (args:=[_]) (bm (show Am.snap hq _=some (.sl [])from rfl) rfl) rfl rfl,?_⟩;rw[XK];conv=>whnf
       exact⟨_,rfl,_,rfl⟩
     ·rw[aO];have S:=S3.drop 1;dsimp only[List.eraseIdx]at S;rw[aO]at S;conv=>whnf
      refine dh (fun m tm hp=>∃(j:Nat),j+m=z.length/\tm 12=i64 (j:Nat)/\ah hp [.cU (aE.d z) (.own id 0 z.length) (id::Fs)]) (fun m tm hq bz hI=>?_) (z.length) ⟨0,by simp,rfl,S⟩;obtain⟨j,hj,qN,S2⟩:=hI;have k6:=bz 6 (by kernel_rfl);conv at k6=>rhs;whnf
      have k7:=bz 7 (by kernel_rfl);conv at k7=>rhs;whnf
      have qi:=bz 11 (by kernel_rfl);conv at qi=>rhs;whnf
      refine⟨[(6,_),(7,_),(11,_),(12,_)],⟨k6,k7,qi,qN,trivial⟩,?_⟩;clear bz k6 k7 qi qN;replace S:=S2;clear S2;conv=>whnf
      refine ae (fun h3=>?_) (fun h3=>?_)
      ·have bq:j<z.length:=by simpa using h3
       rcases ah.open S with⟨VK,_,_⟩|⟨id',us,Fs',cq,_,S4⟩
       ·rw[List.map_eq_nil_iff.1 VK]at bq;simp at bq
       injection cq with rW;subst rW;obtain⟨P,F1,hgz,hP⟩:=Qv bq (S4.get 1 rfl);have hw:=aaO _ (ay bq);generalize z[j]=x at hgz hP hw;have aaP:us[0+((j:Nat):Int).toNat]?=some (.agg [P,i64 x.w]):=by simpa using hgz
       conv=>whnf
       refine⟨_,S4.row 0 rfl,⟨by omega,by omega⟩,?_⟩;conv=>whnf
       refine .inr ⟨_,_,_,S4.row 0 rfl,aaP,eV (v:=P) (by rfl) ?_⟩
       have yt:(P= .nil/\x.row=[])∨P= .sl (x.row.map i64)∨ ∃id,P= .own id 0 x.row.length:=by
        rcases bP.ZX hP (xs:=x.row.map i64) (by simp only[gq.d,ba.enc,ba.tA])with⟨h1,h2⟩|h1|⟨id,h1⟩
        ·exact .inl ⟨h1,List.map_eq_nil_iff.1 h2⟩
        ·exact .inr (.inl h1)
        ·exact .inr (.inr ⟨id,by simpa using h1⟩)
       rcases yt with⟨rfl,NU⟩|rfl|⟨idp,rfl⟩
       ·rw[NU]at hw;conv=>whnf
        refine bf (show((0:Int) != wd)=false by simpa using hw) ?_;conv=>whnf
        exact⟨m-1,by omega,j+1,by omega,aQ j (by omega),S⟩
       ·skip;conv=>whnf
        refine bf (show(((x.row.map i64).length:Int) != wd)=false by simpa using hw) ?_;conv=>whnf
        exact⟨m-1,by omega,j+1,by omega,aQ j (by omega),S⟩
       ·skip;conv=>whnf
        refine bf (show((x.row.length:Int) != wd)=false by simpa using hw) ?_;conv=>whnf
        exact⟨m-1,by omega,j+1,by omega,aQ j (by omega),S⟩
      ·have bq: ¬j<z.length:=by simpa using h3
       conv=>whnf
       refine⟨_,c6.here (bm (aE.fU (S.get 0 rfl)) rfl) rfl rfl,?_⟩;rw[XK];conv=>whnf
       exact⟨_,rfl,_,rfl⟩
    ·have c6:dm pr 11 [.sl []] (.bool true):=c6;rcases ah.open S3 with⟨VK,hv,_⟩|⟨id,ws,Fs,rfl,rfl,_⟩
     ·rcases hv with rfl|rfl
      all_goals
       conv=>whnf
       refine dh (fun m tm hp=>∃(j:Nat),j+m=0/\tm 12=i64 (j:Nat)) (fun m tm hq bz hI=>?_) (0) ⟨0,by simp,rfl⟩;obtain⟨j,hj,qN⟩:=hI;have k6:=bz 6 (by kernel_rfl);conv at k6=>rhs;whnf
       have k7:=bz 7 (by kernel_rfl);conv at k7=>rhs;whnf
       have qi:=bz 11 (by kernel_rfl);conv at qi=>rhs;whnf
       refine⟨[(6,_),(7,_),(11,_),(12,_)],⟨k6,k7,qi,qN,trivial⟩,?_⟩;clear bz k6 k7 qi qN;have S:ah hq []:=ah.nil hq;conv=>whnf
       have KR:j=0:=by omega
       subst KR;conv=>whnf
       refine ae (fun g7=>?_) (fun g7=>?_)
       ·conv=>whnf
        refine⟨_,c6.here (args:=[_]) (bm (show Am.snap hq _=some (.sl [])from rfl) rfl) rfl rfl,?_⟩;conv=>whnf
        exact⟨_,rfl,_,rfl⟩
       ·conv=>whnf
        exact⟨_,rfl,_,rfl⟩
     ·have S:=S3.drop 1;dsimp only[List.eraseIdx]at S;conv=>whnf
      refine dh (fun m tm hp=>∃(j:Nat),j+m=0/\tm 12=i64 (j:Nat)/\ah hp [.cU (aE.d []) (.own id 0 0) (id::Fs)]) (fun m tm hq bz hI=>?_) (0) ⟨0,by simp,rfl,S⟩;obtain⟨j,hj,qN,S2⟩:=hI;have k6:=bz 6 (by kernel_rfl);conv at k6=>rhs;whnf
      have k7:=bz 7 (by kernel_rfl);conv at k7=>rhs;whnf
      have qi:=bz 11 (by kernel_rfl);conv at qi=>rhs;whnf
      refine⟨[(6,_),(7,_),(11,_),(12,_)],⟨k6,k7,qi,qN,trivial⟩,?_⟩;clear bz k6 k7 qi qN;replace S:=S2;clear S2;conv=>whnf
      have KR:j=0:=by omega
      subst KR;conv=>whnf
      refine ae (fun g7=>?_) (fun g7=>?_)
      ·conv=>whnf
       refine⟨_,c6.here (args:=[_]) (bm (aE.fU (S.get 0 rfl)) rfl) rfl rfl,?_⟩;conv=>whnf
       exact⟨_,rfl,_,rfl⟩
      ·conv=>whnf
       exact⟨_,rfl,_,rfl⟩
end Go.Proofs.YtfepbikckfehlaaGreat
set_option maxHeartbeats 4000000
namespace Go.Am
open Go
theorem Qx{P:Program}{n:Nat}{t e:TypeId}{xs:List af}{α:Type}(f:α->af)(Q:α->Prop)(hu:P.underlying t=some (.slice e))(he: ∀ys,tp P n e ys-> ∃c,ib P e ys=f c/\Q c)(h:tp P (n+1) t xs):
  ∃cs:List α,xs=[.sl (cs.map f)]/\cs.length<=maxLen/\ ∀c∈cs,Q c:=by
   unfold tp at h;rw[hu]at h;obtain⟨xq,rfl,hl,hy⟩:=h
   have key: ∀xq:List (List af),(∀ys∈xq,tp P n e ys)-> ∃cs:List α,xq.map (ib P e)=cs.map f/\ ∀c∈cs,Q c:=by
    intro xq
    induction xq with
    |nil=>intro _;exact⟨[],rfl,fun c hc=>by simp at hc⟩
    |cons ys xq ih=>
     intro hy;obtain⟨c,hc,hq⟩:=he ys (hy ys (by simp));obtain⟨cs,rq,WT⟩:=ih fun zs hz=>hy zs (by simp[hz])
     exact⟨c::cs,by simp[hc,rq],fun d hd=>by
      rcases aW.1 hd with rfl|hd
      ·exact hq
      ·exact WT d hd⟩
   obtain⟨cs,rq,WT⟩:=key xq hy;have hlen:cs.length=xq.length:=by have:=congrArg List.length rq;simpa using this.symm
   exact⟨cs,by rw[rq],by omega,WT⟩
theorem Vc{P:Program}{n:Nat}{t:TypeId}{k:IntKind}{xs:List af}(hu:P.underlying t=some (.int k))(h:tp P (n+1) t xs): ∃i,xs=[.int k i]/\(Lit.int k i).wf=true:=by
 unfold tp at h;rw[hu]at h;exact h
theorem Ln{P:Program}{n:Nat}{t:TypeId}{xs:List af}(h:tp P n t xs): ∃m,n=m+1:=by
 cases n with
 |zero=>exact h.elim
 |succ n=>exact⟨n,rfl⟩
end Go.Am
namespace Go.Proofs.YtfepbikckfehlaaGreat
open Go Go.Am
set_option maxRecDepth 100000
def XL:TypeId:=4
end Go.Proofs.YtfepbikckfehlaaGreat
set_option maxHeartbeats 4000000
namespace Go.Proofs.YtfepbikckfehlaaGreat
open Go Go.Am Go.ChangeShapes Go.WideShapes Go.ChangeAt Go.RowKit
set_option maxRecDepth 100000
theorem Vd:ownKnob Tryz.prog.godebug=none:=by kernel_rfl
theorem Qy:laidOutB Tryz.prog=true:=by kernel_rfl
def D7:TypeId:=22
def tU8:TypeId:=5
theorem Sv{k:Int}(h:(Lit.int .u8 k).wf=true):0<=k/\k<256:=by
 simp[Lit.wf,IntKind.min,IntKind.max,IntKind.signed,IntKind.bits]at h;omega
theorem Sy{n:Nat}{xs:List af}(h:tp Tryz.prog n D7 xs): ∃bs:List Int,ib Tryz.prog D7 xs= .sl (bs.map u8)/\ ∀b∈bs,0<=b/\b<256:=by
 obtain⟨m,rfl⟩:=Ln h
 obtain⟨cs,rfl,_,h2⟩:=Qx (e:=tU8) u8 (fun b=>0<=b/\b<256) rfl (fun ys hy=>by
  obtain⟨m2,rfl⟩:=Ln hy;obtain⟨i,rfl,hi⟩:=Vc (k:=.u8) rfl hy;exact⟨i,rfl,Sv hi⟩) h
 exact⟨cs,rfl,h2⟩
theorem wY(os:Os)(started:os.Started)(H:Type)(enc:TypeId×Value->H):
  ReturnsInHanded {} Tryz.checked os 3 .any (Rows.fnStoreReadSpec.pre6 enc Tryz.prog Tryz.f3 Rows.fnStoreReadRow.domain false) (Rows.fnStoreReadSpec.post enc Tryz.prog Tryz.f3 false true false false):=by
   refine returnsInHanded_of_change (C:=Tryz.checked) Vd started (by kernel_rfl) Tryz.func3
    (ChangeSpec.witness6 (enc:=enc) (C:=Tryz.checked) false ⟨#[],#[.slice none 0 0],[]⟩ 8 (by kernel_rfl) (by kernel_rfl) (by kernel_rfl) (by kernel_rfl)) ?_
   intro W base args ds gs before EX hW aeF _;refine Ow (cf:=du Ge) WW (f:=3) (fn:=Tryz.f3) rfl rfl Qy (by decide+kernel) (ts:=[D7,tU8]) (by kernel_rfl) (by decide+kernel) (tb:=XL) rfl rfl (fun _=>rfl) (fun H ds hl=>?_) (fun args ha=>?_) EX hW
   ·match ds,hl with
    | [d],_=>rfl
   ·have TU:LR Tryz.prog [D7] args:=ha
    cases TU with
    |cons hx hr=>
     cases hr with
     |nil=>
      obtain⟨bs,hb,hq⟩:=Sy hx;rw[hb];exact Bt ZH bs hq
theorem fnStoreRead:Rows.FnStoreReadSaid:=
 OpenClaim.holds_of_wide 3 Tryz.f3 rfl rfl rfl rfl rfl rfl rfl ⟨rfl,rfl,rfl,rfl,rfl⟩ rfl rfl rfl rfl rfl (by kernel_rfl) Tryz.func3 (by kernel_rfl)
  (of_decide_eq_true (by kernel_rfl)) (by unfold Func.isWrapper;first|(rw[if_pos (by decide+kernel)];kernel_rfl)|(rw[if_neg (by decide+kernel)];exact⟨rfl,rfl⟩))
  (fun os started H enc _=>wY os started H enc)
#print axioms fnStoreRead
end Go.Proofs.YtfepbikckfehlaaGreat

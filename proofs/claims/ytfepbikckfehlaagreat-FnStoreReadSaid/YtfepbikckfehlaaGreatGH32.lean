/- Flows that are ok: the reference's; the plain law. -/
import Derived.Test.YtfepbikckfehlaaGreatGH31
import Derived.Test.YtfepbikckfehlaaGreatGH23
import Derived.Test.YtfepbikckfehlaaGreatGH15
import Derived.Test.YtfepbikckfehlaaGreatGH16
import Derived.Test.YtfepbikckfehlaaGreatGH28
set_option linter.unusedVariables false
set_option linter.unusedSimpArgs false
set_option maxHeartbeats 4000000
namespace Go.Proofs.YtfepbikckfehlaaGreat
open Go Go.Am
theorem wJ(w:Int):gC w= -1∨(1<=gC w/\gC w<=6):=by
 unfold gC;split
 ·rename_i h;simp only[aj,decide_eq_true_iff]at h;exact .inr h
 ·exact .inl rfl
theorem xP(ws:List Int)(p:ax):bQ gC ws p= -1∨(1<=bQ gC ws p/\bQ gC ws p<=6):=by
 obtain⟨aw,n,aA,cells,a,b,ao,agg,c,al⟩:=p;rw[bQ]
 repeat' split
 all_goals first|exact .inl rfl|exact wJ _
theorem PV(ws:List Int): ∀(d:Nat)(p:ax),dep p<=d->cy ws d p=bQ gC ws p:=by
 intro d
 induction d with
 |zero=>intro p h;obtain⟨aw,n,aA,cells,a,b,ao,agg,c,al⟩:=p;simp only[dep]at h;omega
 |succ d ih=>
  intro p h;obtain⟨aw,n,aA,cells,a,b,ao,agg,c,al⟩:=p;simp only[dep]at h;have yd: ∀q∈al,cy ws d q=bQ gC ws q:=fun q hq=>ih q (by have:=rP hq;omega)
  have vG:mc ws d al=fY gC ws al:=by
   clear h
   induction al with
   |nil=>simp[mc,fY]
   |cons q qs Jt=>
    have h1:=yd q (by simp);have h2:=Jt fun r hr=>yd r (by simp[hr]);simp only[mc,fY,h1,h2];rcases xP ws q with e|e
    ·rw[e];rfl
    ·have e1: ¬bQ gC ws q<1:=by omega
     have e2:(bQ gC ws q== -1)=false:=by simp;omega
     rw[if_neg e1,e2];rfl
  rw[cy,bQ]
  by_cases hs:shaped (.mk aw n aA cells a b ao agg c al)=true
  ·rw[if_pos hs,if_pos hs]
   by_cases hk:aw=1
   ·rw[if_pos hk,if_pos hk]
    cases ws with
    |nil=>
     subst hk
     have:bI (.mk 1 n aA cells a b ao agg c al) []= -1:=by
      show(if decide (0<=n)&&decide (n<(([]:List Int).length:Int))then nth [] n.toNat else-1)= -1;rw[if_neg];simp<;>omega
     rw[this]
     rfl
    |cons w ws=>rfl
   ·rw[if_neg hk,if_neg hk,vG]
    cases hw:fY gC ws al with
    |none=>rfl
    |some l=>
     have kY:l.isEmpty=false:=by
      cases al with
      |nil=>
       exfalso;simp only[shaped,ax.aw,ax.al,aj,beq_iff_eq]at hs;have:=hs.1;rcases eR aw with rfl|rfl|rfl|rfl|rfl|rfl|rfl|⟨h1,h2,h3,h4,h5,h6,h7⟩
       ·exact hk rfl
       all_goals first|(simp[bX]at this;done)|(simp only[beq_eq_false_iff_ne,ne_eq]at*;simp[bX,h1,h2,h3,h4,h5,h6,h7]at this)
      |cons q qs=>
       simp only[fY]at hw;split at hw
       ·cases hw
       ·cases hq:fY gC ws qs with
        |none=>rw[hq]at hw;cases hw
        |some m=>rw[hq]at hw;simp only[bh,Option.some.injEq]at hw;subst hw;rfl
     simp only[kY];rfl
  ·rw[if_neg hs,if_neg hs]
theorem Ju(ws:List Int): ∀(d:Nat)(p:ax),d<dep p->cy ws d p= -1:=by
 intro d
 induction d with
 |zero=>intro p h;simp[cy]
 |succ d ih=>
  intro p h;obtain⟨aw,n,aA,cells,a,b,ao,agg,c,al⟩:=p;simp only[dep]at h
  have hw:mc ws d al=none:=by
   have hd:d<cZ al:=by omega
   clear h
   induction al with
   |nil=>simp[cZ]at hd
   |cons q qs Jt=>
    simp only[cZ]at hd;simp only[mc]
    by_cases h1:d<dep q
    ·rw[ih q h1];rfl
    ·rw[Jt (by omega)];split<;>rfl
  rw[cy]
  by_cases hs:shaped (.mk aw n aA cells a b ao agg c al)=true
  ·rw[if_pos hs]
   by_cases hk:aw=1
   ·exfalso;subst hk;simp only[shaped,ax.aw,ax.al,aj,beq_iff_eq]at hs;have h1:bX 1=0:=rfl;have:al=[]:=bk.1 (by omega);subst this;simp[cZ]at h
   ·rw[if_neg hk,hw]
  ·rw[if_neg hs]
theorem xQ(p:ax)(ws:List Int):dq p ws=fq p ws:=by
 unfold dq fq;rw[Ag]
 by_cases hd:dep p<=6
 ·rw[GK 6 p (by omega),PV ws 6 p hd];simp[hd]
 ·rw[Ju ws 6 p (by omega)];simp[hd]
end Go.Proofs.YtfepbikckfehlaaGreat
set_option maxHeartbeats 4000000
namespace Go.Proofs.YtfepbikckfehlaaGreat
open Go Go.Am
variable{pr:bL}(hp:bV pr)
set_option maxRecDepth 100000
def rQ:List Item->List (List Item)->Bool
 |_,[]=>true
 |all,z::rest=>(!z.isEmpty&&(c7 z&&c7 (dN all z)))&&rQ (dN all z) rest
def gN(bx:List (List Item)):Bool:=decide (bx.length<=5)&&rQ [] bx
theorem PW(hp:bV pr)(bx:List (List Item))(hr:xD bx):dm pr 143 [bM.enc bx] (.bool (gN bx)):=by
 obtain⟨hl,hr⟩:=hr;refine ea hp rfl rfl ?_;have S:ah [] []:=ah.nil [];conv=>whnf
 refine ae (fun h0=>?_) (fun h0=>?_)
 ·conv=>whnf
  exact bH (by have: ¬bx.length<=5:=by simp at h0;omega
               simp[gN,this])
 have h5:bx.length<=5:=by simp at h0;omega
 have hz:gN bx=rQ [] bx:=by simp[gN,h5]
 rw[hz];clear hz h0;conv=>whnf
 refine ga (fun m tm hp=>∃(j:Nat)(V:af)(z:List Item),j+m=bx.length/\tm 3=V/\tm 11=i64 (j:Nat)/\((gi z/\z.length<=100)/\cj [] [V]=some [aE.enc z])/\(rQ [] bx=rQ z (bx.drop j))) (fun m tm hq bz hI=>?_) (bx.length) ⟨0,.nil,[],by simp,(by first|rfl|kernel_rfl|simp),(by first|rfl|kernel_rfl|simp),(⟨⟨⟨by simp,by simp⟩,by simp⟩,rfl⟩),(rfl)⟩;obtain⟨j,V,z,hj,e3,IQ,hz,aD⟩:=hI;have k9:=bz 9 (by kernel_rfl);conv at k9=>rhs;whnf
 rw[<-aP k9];have Ue:=bz 10 (by kernel_rfl);conv at Ue=>rhs;whnf
 rw[<-aP Ue];rw[<-aP e3];rw[<-aP IQ];clear bz k9 Ue e3 IQ;have S:ah hq []:=ah.nil hq;conv=>whnf
 obtain⟨⟨hz,hz2⟩,hV⟩:=hz
 have hV:Am.snap [] V=some (aE.enc z):=by
  unfold cj at hV;simp only[cp]at hV
  cases h:Am.snap [] V with
  |none=>rw[h]at hV;cases hV
  |some q=>rw[h]at hV;simpa using hV
 have El:=hl;unfold cM at El;refine ae (fun h1=>?_) (fun h1=>?_)
 ·have bq:j<bx.length:=by simpa using h1
  have cx:(bx.map aE.enc)[((j:Nat):Int).toNat]?=some (aE.enc bx[j]):=by rw[aq];simp[bq]
  rw[ar bq]at aD;have hx:=hr _ (ay bq);generalize bx[j]=x at cx aD hx;simp only[rQ]at aD;have Vi:=hx.1;unfold cM at Vi
  by_cases Z0:x.length<=100
  ·have Z1:gi (dN z x):=zP hz hx (by simp[cM];omega);have h2:=(tK hp z x hz hx).lE (args:=[V,aE.enc x]) (jI hV rfl) rfl;have h3:=rE hp x hx;have h4:=rE hp (dN z x) Z1;conv=>whnf
   refine⟨_,cx,by omega,rfl,?_⟩;conv=>whnf
   refine⟨_,h2 _,?_⟩;conv=>whnf
   refine ae (fun g1=>?_) (fun g1=>?_)
   ·conv=>whnf
    exact bH (by rw[aD];have:x=[]:=bk.1 (by simpa using g1);subst this;rfl)
   ·have kY:x.isEmpty=false:=by cases x with|nil=>simp at g1|cons a b=>rfl
    rw[kY]at aD;conv=>whnf
    refine⟨_,h3 _,?_⟩;conv=>whnf
    refine ae (fun g2=>?_) (fun g2=>?_)
    ·rw[g2]at aD;conv=>whnf
     refine⟨_,h4 _,?_⟩;conv=>whnf
     refine ae (fun g3=>?_) (fun g3=>?_)
     ·rw[g3]at aD;conv=>whnf
      exact⟨m-1,by omega,j+1,_,dN z x,by omega,rfl,aQ j (by omega),⟨⟨Z1,(cE g3).1⟩,rfl⟩,aD⟩
     ·rw[g3]at aD;conv=>whnf
      exact bH (by rw[aD];rfl)
    ·rw[g2]at aD;conv=>whnf
     exact bH (by rw[aD];rfl)
  ·have hnz:c7 x=false:=by simp[c7,Z0]
   have Z1:gi (dN z x)∨True:=.inr trivial;have h2:=(tK hp z x hz hx).lE (args:=[V,aE.enc x]) (jI hV rfl) rfl;have h3:=rE hp x hx;rw[hnz]at h3 aD;conv=>whnf
   refine⟨_,cx,by omega,rfl,?_⟩;conv=>whnf
   refine⟨_,h2 _,?_⟩;conv=>whnf
   refine bf (by simp;intro e;rw[e]at Z0;simp at Z0) ?_;conv=>whnf
   refine⟨_,h3 _,?_⟩;conv=>whnf
   exact bH (by rw[aD];simp)
 ·have bq:j=bx.length:=by
   have: ¬j<bx.length:=by simpa using h1
   omega
  subst bq;rw[aL]at aD;conv=>whnf
  exact bH (by rw[aD];rfl)
theorem GP(hp:bV pr)(bx:List (List Item))(hr:xD bx):dm pr 131 [.agg [bM.enc bx]] (.bool (gN bx)):=by
 have h:=PW hp bx hr;refine ea hp rfl rfl ?_;have S:ah [] []:=ah.nil []
 iterate 4
  all_goals(try(conv=>whnf))
  all_goals(first|(intro ke cg er bn;replace S:=S.alloc er bn)|(refine .inl ⟨_,S.row 0 rfl,rfl,?_⟩)|(refine .inl ⟨_,S.row 1 rfl,rfl,?_⟩)|(refine .inl ⟨_,S.row 2 rfl,rfl,?_⟩)|(refine .inl ⟨_,S.row 3 rfl,rfl,?_⟩)|(refine .inl ⟨_,S.row 4 rfl,rfl,?_⟩)|(refine⟨_,rfl,rfl,rfl,.inl ⟨_,S.row 0 rfl,rfl,?_⟩⟩;(conv=>whnf);intro cg bn;replace S:=S.w0 bn)|(refine⟨_,rfl,rfl,rfl,.inl ⟨_,S.row 1 rfl,rfl,?_⟩⟩;(conv=>whnf);intro cg bn;replace S:=S.w1 bn)|(refine⟨_,rfl,rfl,rfl,.inl ⟨_,S.row 2 rfl,rfl,?_⟩⟩;(conv=>whnf);intro cg bn;replace S:=S.w2 bn)|(refine⟨_,rfl,rfl,rfl,.inl ⟨_,S.row 3 rfl,rfl,?_⟩⟩;(conv=>whnf);intro cg bn;replace S:=S.w3 bn)|(refine⟨_,rfl,rfl,rfl,.inl ⟨_,S.row 4 rfl,rfl,?_⟩⟩;(conv=>whnf);intro cg bn;replace S:=S.w4 bn)|(refine ae (fun hb=>?_) (fun hb=>?_))|(refine⟨_,h _,?_⟩)|skip)
 all_goals exact bH hb.symm
theorem DN(hp:bV pr): ∀(N:Nat)(p:ax),SizeOf.sizeOf p<=N->p.small-> ∀q,q.small->dm pr 105 [p.enc,q.enc] (.bool (eb p q)):=by
 intro N
 induction N with
 |zero=>intro p h;exfalso;cases p;simp at h
 |succ N ih=>
  intro p hs fm q A5;obtain⟨aw,n,aA,cells,a,b,ao,agg,c,al⟩:=p;obtain⟨cd,n',cr,bK,a',b',cm,cX,c',bU⟩:=q;obtain⟨qM,jK,fL,fB⟩:=dK fm;obtain⟨Xe,Xf,KZ,PX⟩:=dK A5;have hk:=OU hp ao cm (by omega) (by omega);have hf: ∀p∈al,∀q∈bU,dm pr 105 [p.enc,q.enc] (.bool (eb p q)):=fun p SY q hq=>ih p (by have:=List.sizeOf_lt_of_mem SY;simp at hs;omega) (fB p SY) q (PX q hq);have hL:=dM al;have Yg:=dM bU;have e1:(((cells.map Cell.enc).length:Int) !=((bK.map Cell.enc).length:Int))=true->cG jm cells bK=false:=fun h=>lx (by simp at h;omega);have e2:(((ax.cz al).length:Int) !=((ax.cz bU).length:Int))=true->oi al bU=false:=fun h=>by rw[ly];exact lx (by simp[hL,Yg]at h;omega)
  refine bY hp rfl rfl ?_
  iterate 22
   all_goals(try(conv=>whnf))
   all_goals(first|(refine ae (fun hb=>?_) (fun hb=>?_))|(refine⟨_,tB aA cr,uE,rfl,?_⟩)|(refine⟨_,hk _,?_⟩)|skip)
  all_goals(try(refine bo ?_;clear hk hf ih hs fm A5 fB PX qM jK fL Xe Xf KZ hL Yg;simp_all[eb,ax.aw,ax.n,ax.aA,ax.cells,ax.a,ax.b,ax.ao,ax.agg,ax.col,ax.al];done))
  rename_i b1 b2 b3 b4 b5 b6 b7 b8 b9;have iO:cells.length=bK.length:=by simp at b9;omega
  have sY:al.length=bU.length:=by simp[hL,Yg]at hb;omega
  have hpe:eb (ax.mk aw n aA cells a b ao agg c al) (ax.mk cd n' cr bK a' b' cm cX c' bU)=(cG jm cells bK&&oi al bU):=by
   clear hk hf ih hs fm A5 fB PX qM jK fL Xe Xf KZ hL Yg e1 e2 b9 hb iO sY;simp_all[eb,ax.aw,ax.n,ax.aA,ax.cells,ax.a,ax.b,ax.ao,ax.agg,ax.col,ax.al]
  rw[hpe];clear b1 b2 b3 b4 b5 b6 b7 b8 b9 hb hpe e1 e2 hs ih hk;have H0: ∀(t:Nat->af),True:=fun _=>trivial;refine dJ (fun m st=>∃j:Nat,j+m=cells.length/\st.tm 2= .ptr 0 0 0/\st.tm 3= .ptr 1 0 0/\st.tm 5=i64 (j:Nat)/\st.hp=[.box (ax.mk aw n aA cells a b ao agg c al).enc,.box (ax.mk cd n' cr bK a' b' cm cX c' bU).enc]/\cG jm cells bK=cG jm (cells.drop j) (bK.drop j)) (fun m st hI=>?_) cells.length _ ⟨0,by simp,rfl,rfl,rfl,rfl,rfl⟩;obtain⟨j,hj,e2,e3,e5,hh,aD⟩:=hI;obtain⟨tm,hq⟩:=st;simp only at e2 e3 e5 hh;subst hh;rw[show tm=eU (eU (eU tm 2 (.ptr 0 0 0)) 3 (.ptr 1 0 0)) 5 (i64 (j:Nat)) by rw[aP e2,aP e3,aP e5]];clear e2 e3 e5;conv=>whnf
  refine ae (fun h1=>?_) (fun h1=>?_)
  ·have bq:j<cells.length:=by simpa using h1
   rw[iU bq (by omega)]at aD;conv=>whnf
   refine⟨(cells[j]).enc,by simp[bq],by omega,rfl,?_⟩;conv=>whnf
   refine⟨(bK[j]).enc,by simp[show j<bK.length by omega],by omega,rfl,?_⟩;conv=>whnf
   refine⟨_,jm cells[j] bK[j],zB,rfl,?_⟩;refine ae (fun h2=>?_) (fun h2=>?_)
   ·conv=>whnf
    exact⟨m-1,by omega,j+1,by omega,rfl,rfl,aQ j (by omega),rfl,by rw[aD,h2];rfl⟩
   ·conv=>whnf
    exact bo (by rw[aD,h2];rfl)
  ·have bq:j=cells.length:=by have: ¬j<cells.length:=by simpa using h1
                              omega
   subst bq;rw[jL iO]at aD;rw[aD,aX,ly];clear aD;conv=>whnf
   refine dJ (fun m st=>∃j:Nat,j+m=al.length/\st.tm 2= .ptr 0 0 0/\st.tm 3= .ptr 1 0 0/\st.tm 6=i64 (j:Nat)/\st.hp=[.box (ax.mk aw n aA cells a b ao agg c al).enc,.box (ax.mk cd n' cr bK a' b' cm cX c' bU).enc]/\cG eb al bU=cG eb (al.drop j) (bU.drop j)) (fun m st hI=>?_) al.length _ ⟨0,by simp,rfl,rfl,rfl,rfl,rfl⟩;obtain⟨j,hj,e2,e3,e6,hh,aD⟩:=hI;obtain⟨tm,hq⟩:=st;simp only at e2 e3 e6 hh;subst hh;rw[show tm=eU (eU (eU tm 2 (.ptr 0 0 0)) 3 (.ptr 1 0 0)) 6 (i64 (j:Nat)) by rw[aP e2,aP e3,aP e6]];clear e2 e3 e6;conv=>whnf
   refine ae (fun h1=>?_) (fun h1=>?_)
   ·have bq:j<al.length:=by simpa[hL]using h1
    rw[iU bq (by omega)]at aD;have eI:=hf al[j] (ay bq) bU[j] (ay _);have g1:(ax.cz al)[((j:Nat):Int).toNat]?=some al[j].enc:=by rw[aq,eK,au bq];rfl
    have g2:(ax.cz bU)[((j:Nat):Int).toNat]?=some bU[j].enc:=by rw[aq,eK,au (show j<bU.length by omega)];rfl
    generalize al[j]=x at eI aD g1;generalize bU[j]=y at eI aD g2;obtain⟨abJ,n3,abK,Z2,a3,b3,abL,adQ,c3,abM⟩:=x;obtain⟨abN,n4,abO,Z3,a4,b4,abP,adR,c4,abQ⟩:=y;conv=>whnf
    refine⟨_,g1,by omega,rfl,?_⟩;conv=>whnf
    refine⟨_,g2,by omega,rfl,?_⟩;conv=>whnf
    refine⟨_,eI _,?_⟩;conv=>whnf
    refine ae (fun h2=>?_) (fun h2=>?_)
    ·conv=>whnf
     exact⟨m-1,by omega,j+1,by omega,rfl,rfl,aQ j (by omega),rfl,by rw[aD,h2];rfl⟩
    ·conv=>whnf
     exact bo (by rw[aD,h2];rfl)
   ·have bq:j=al.length:=by have: ¬j<al.length:=by simpa[hL]using h1
                            omega
    subst bq;rw[jL sY]at aD;conv=>whnf
    exact bo aD.symm
theorem GQ(hp:bV pr)(p q:ax)(fm:p.small)(A5:q.small):dm pr 105 [p.enc,q.enc] (.bool (eb p q)):=DN hp _ p (aB _) fm q A5
end Go.Proofs.YtfepbikckfehlaaGreat
set_option maxHeartbeats 4000000
namespace Go.Proofs.YtfepbikckfehlaaGreat
open Go Go.Am
variable{pr:bL}(hp:bV pr)
set_option maxRecDepth 100000
mutual
def ax.fits:ax->Prop
 | .mk aw n aA cells a b ao agg c al=>cells.length<=9223372036854775807/\ao.length<=9223372036854775807/\al.length<=9223372036854775807/\ax.Th al
def ax.Th:List ax->Prop
 | []=>True
 |p::ps=>p.fits/\ax.Th ps
end
end Go.Proofs.YtfepbikckfehlaaGreat
set_option maxHeartbeats 4000000
namespace Go.Proofs.YtfepbikckfehlaaGreat
open Go Go.Am
variable{pr:bL}(hp:bV pr)
set_option maxRecDepth 100000
end Go.Proofs.YtfepbikckfehlaaGreat
set_option maxHeartbeats 4000000
namespace Go.Proofs.YtfepbikckfehlaaGreat
open Go Go.Am
variable{pr:bL}(hp:bV pr)(hs:B8 pr)
set_option maxRecDepth 100000
def iu(aw:Int):Int:=if aw=4 then 2 else if aw=6∨aw=7 then 1 else 0
def ju(ro:List (List Item)->Bool)(aw:Int)(l r:List (List Item)):Bool:=(ro l&&(!decide (iu aw<=0)||l.isEmpty))&&(ro r&&(!decide (iu aw<=1)||r.isEmpty))
def GR(ro:List (List Item)->Bool)(aw:Int)(l r:List (List Item))(rest:Bool):Nat->Bool
 |0=>ju ro aw l r&&rest
 |1=>(ro r&&(!decide (iu aw<=1)||r.isEmpty))&&rest
 |_=>rest
def bA.dx:bA->ax| .mk p ..=>p
mutual
def jB(ro:List (List Item)->Bool):bA->Bool
 | .mk p l r ks=>(ks.length==p.al.length)&&(ju ro p.aw l r&&kL ro ks p.al)
def kL(ro:List (List Item)->Bool):List bA->List ax->Bool
 |f::fs,q::qs=>(eb f.dx q&&jB ro f)&&kL ro fs qs
 |_,_=>true
end
theorem R6(hp:bV pr)(p:ax):dm pr 132 [p.enc] (i64 (iu p.aw)):=by
 obtain⟨aw,n,aA,cells,a,b,ao,agg,c,al⟩:=p;refine ea hp rfl rfl ?_;have S:ah [] []:=ah.nil []
 iterate 8
  all_goals(try(conv=>whnf))
  all_goals(first|(intro ke cg er bn;replace S:=S.alloc er bn)|(refine .inl ⟨_,S.row 0 rfl,rfl,?_⟩)|(refine .inl ⟨_,S.row 1 rfl,rfl,?_⟩)|(refine⟨_,rfl,rfl,rfl,.inl ⟨_,S.row 0 rfl,rfl,?_⟩⟩;(conv=>whnf);intro cg bn;replace S:=S.w0 bn)|(refine⟨_,rfl,rfl,rfl,.inl ⟨_,S.row 1 rfl,rfl,?_⟩⟩;(conv=>whnf);intro cg bn;replace S:=S.w1 bn)|(refine ae (fun hb=>?_) (fun hb=>?_))|skip)
 all_goals(try(conv=>whnf))
 all_goals exact dO (by simp_all[iu,ax.aw])
theorem jv{p:ax}{l r:List (List Item)}{ks:List bA}:(bA.mk p l r ks).d.eX=p.sz+(bM.d l).eX+(bM.d r).eX+(ks.length+ba.eQ (ks.map bA.d)):=by
 simp only[bA.d,ba.eX,ba.eQ,bA.Di,aO];omega
theorem jR{l:List (List Item)}(h:(bM.d l).eX<=1048576):xD l:=by
 simp only[bM.d,ba.eX,aO]at h;refine⟨by simp[cM];omega,fun z hz=>?_⟩;have h1:=ed (f:=aE.d) hz;simp only[aE.d,ba.eX,aO]at h1;refine⟨by simp[cM];omega,fun x hx=>?_⟩;have h2:=ed (f:=Item.d) hx;rw[Item.eX]at h2;simp[cM];omega
theorem qz(ks:List bA)(j:Nat):(bA.cz ks)[j]?=(ks[j]?).map bA.enc:=by
 have:bA.cz ks=ks.map bA.enc:=by induction ks with|nil=>rfl|cons f fs ih=>simp[bA.cz,ih]
 rw[this,List.getElem?_map]
theorem kM(ks:List bA):(bA.cz ks).length=ks.length:=by
 induction ks with|nil=>rfl|cons f fs ih=>simp[bA.cz,ih]
theorem Jv{ro:List (List Item)->Bool}{ks:List bA}{qs:List ax}{j:Nat}(h1:j<ks.length)(h2:j<qs.length):kL ro (ks.drop j) (qs.drop j)=((eb ks[j].dx qs[j]&&jB ro ks[j])&&kL ro (ks.drop (j+1)) (qs.drop (j+1))):=by
 rw[ar h1,ar h2,kL]
theorem PY(hs:B8 pr): ∀(N:Nat)(f:bA),SizeOf.sizeOf f<=N->f.d.eX<=1048576->dm pr 111 [f.enc] (.bool (jB gN f)):=by
 have hp:=hs.tobV;intro N
 induction N with
 |zero=>intro f h;cases f;simp at h
 |succ N ih=>
  intro f je ht;obtain⟨⟨aw,n,aA,cells,a,b,ao,agg,c,al⟩,l,r,ks⟩:=f;rw[jv]at ht;have hl:=GP hp l (jR (by omega));have hr:=GP hp r (jR (by omega));have hk:=R6 hp (.mk aw n aA cells a b ao agg c al);have ji:=dM al;have EE:=kM ks;have fm:(ax.mk aw n aA cells a b ao agg c al).small:=by unfold ax.small;omega
  obtain⟨qM,jK,fL,fB⟩:=dK fm;have eI: ∀k∈ks,dm pr 111 [k.enc] (.bool (jB gN k)):=fun k hk=>ih k (by have:=List.sizeOf_lt_of_mem hk;simp at je;omega) (by have:=ed (f:=bA.d) hk;omega)
  have Er: ∀k∈ks,∀q,dm pr 71 [k.dx.enc,q.enc] (.bool (eb k.dx q)):=fun k hk q=>zG hp _ q (by
   have:=ed (f:=bA.d) hk;obtain⟨p',l',r',pc⟩:=k;rw[jv]at this;simp only[bA.dx,ax.small];omega)
  have Z4:ks.length<=1048576:=by omega
  clear ih je ht;generalize hR:jB gN (.mk (.mk aw n aA cells a b ao agg c al) l r ks)=R;rw[jB]at hR;simp only[ax.aw,ax.al]at hR hk;refine ea hp rfl rfl ?_;have S:ah [] []:=ah.nil [];conv=>whnf
  intro k1 a1 dw dC;replace S:=S.alloc dw dC;clear dw dC;conv=>whnf
  refine aI (S.row 0 rfl) ?_;conv=>whnf
  refine aI (S.row 0 rfl) ?_;conv=>whnf
  refine ae (fun g0=>?_) (fun g0=>?_)
  ·conv=>whnf
   exact bH (by rw[<-hR];rw[ji,EE]at g0;have:(ks.length==al.length)=false:=by simp at g0⊢;omega
                rw[this];rfl)
  ·have hlen:ks.length=al.length:=by rw[ji,EE]at g0;simp at g0;omega
   rw[show(ks.length==al.length)=true by simp[hlen],aX]at hR;clear g0;conv=>whnf
   refine aI (S.row 0 rfl) ?_;conv=>whnf
   refine aI (S.row 0 rfl) ?_;conv=>whnf
   intro k2 a2 jf iB;replace S:=S.alloc jf iB;clear jf iB;conv=>whnf
   have S2:ah a2 [.row k2 (.arr 1 [.agg [bM.enc l],.agg [bM.enc r]]),.row k1 (.box (bA.mk (.mk aw n aA cells a b ao agg c al) l r ks).enc)]:=S;clear S;have S:=S2;clear S2;refine ga (fun m tm hp=>∃(j:Nat),j+m=2/\tm 21=i64 (j:Nat)/\ah hp [.row k2 (.arr 1 [.agg [bM.enc l],.agg [bM.enc r]]),.row k1 (.box (bA.mk (.mk aw n aA cells a b ao agg c al) l r ks).enc)]/\(GR gN aw l r (kL gN ks al) j=R)) (fun m tm hq bz hI=>?_) (2) ⟨0,by simp,(by first|rfl|kernel_rfl|simp),S,(hR)⟩;obtain⟨j,hj,e21,S2,aD⟩:=hI;have k1:=bz 1 (by kernel_rfl);conv at k1=>rhs;whnf
   rw[<-aP k1];have Z5:=bz 19 (by kernel_rfl);conv at Z5=>rhs;whnf
   rw[<-aP Z5];have Z6:=bz 20 (by kernel_rfl);conv at Z6=>rhs;whnf
   rw[<-aP Z6];rw[<-aP e21];clear bz k1 Z5 Z6 e21;clear S;have S:=S2;clear S2;conv=>whnf
   clear hR;have Nw:j=0∨j=1∨j=2:=by omega
   rcases Nw with rfl|rfl|rfl
   ·simp only[GR,ju]at aD;conv=>whnf
    refine⟨_,S.row 0 rfl,⟨by decide,by simp⟩,?_⟩;conv=>whnf
    refine .inr ⟨_,_,_,S.row 0 rfl,rfl,?_⟩
    iterate 3
     all_goals(try(conv=>whnf))
     all_goals(first|(intro ke cg er bn;replace S:=S.alloc er bn)|(refine .inl ⟨_,S.row 0 rfl,rfl,?_⟩)|(refine⟨_,rfl,rfl,rfl,.inl ⟨_,S.row 0 rfl,rfl,?_⟩⟩;(conv=>whnf);intro cg bn;replace S:=S.w0 bn)|(refine ae (fun hb=>?_) (fun hb=>?_))|skip)
    refine⟨_,hl _,?_⟩;conv=>whnf
    refine ae (fun g1=>?_) (fun g1=>?_)
    ·rw[g1,aX]at aD;conv=>whnf
     refine aI (S.row 2 rfl) ?_;conv=>whnf
     refine⟨_,hk _,?_⟩;conv=>whnf
     refine ae (fun g2=>?_) (fun g2=>?_)
     ·have sM:decide (iu aw<=0)=true:=by simpa using g2
      rw[sM]at aD;conv=>whnf
      refine aI (S.row 0 rfl) ?_;conv=>whnf
      refine ae (fun g3=>?_) (fun g3=>?_)
      ·conv=>whnf
       exact bH (by rw[<-aD];cases l with|nil=>simp at g3|cons x xs=>rfl)
      ·conv=>whnf
       have:l.isEmpty=true:=by cases l with|nil=>rfl|cons x xs=>simp at g3
       rw[this]at aD;exact⟨m-1,by omega,0+1,by omega,aQ 0 (by omega),S.drop 0,by rw[<-aD];simp[GR]⟩
     ·have sM:decide (iu aw<=0)=false:=by simpa using g2
      rw[sM]at aD;conv=>whnf
      exact⟨m-1,by omega,0+1,by omega,aQ 0 (by omega),S.drop 0,by rw[<-aD];simp[GR]⟩
    ·conv=>whnf
     exact bH (by rw[<-aD,g1];rfl)
   ·simp only[GR,ju]at aD;conv=>whnf
    refine⟨_,S.row 0 rfl,⟨by decide,by simp⟩,?_⟩;conv=>whnf
    refine .inr ⟨_,_,_,S.row 0 rfl,rfl,?_⟩
    iterate 3
     all_goals(try(conv=>whnf))
     all_goals(first|(intro ke cg er bn;replace S:=S.alloc er bn)|(refine .inl ⟨_,S.row 0 rfl,rfl,?_⟩)|(refine⟨_,rfl,rfl,rfl,.inl ⟨_,S.row 0 rfl,rfl,?_⟩⟩;(conv=>whnf);intro cg bn;replace S:=S.w0 bn)|(refine ae (fun hb=>?_) (fun hb=>?_))|skip)
    refine⟨_,hr _,?_⟩;conv=>whnf
    refine ae (fun g1=>?_) (fun g1=>?_)
    ·rw[g1,aX]at aD;conv=>whnf
     refine aI (S.row 2 rfl) ?_;conv=>whnf
     refine⟨_,hk _,?_⟩;conv=>whnf
     refine ae (fun g2=>?_) (fun g2=>?_)
     ·have sM:decide (iu aw<=1)=true:=by simpa using g2
      rw[sM]at aD;conv=>whnf
      refine aI (S.row 0 rfl) ?_;conv=>whnf
      refine ae (fun g3=>?_) (fun g3=>?_)
      ·conv=>whnf
       exact bH (by rw[<-aD];cases r with|nil=>simp at g3|cons x xs=>rfl)
      ·conv=>whnf
       have:r.isEmpty=true:=by cases r with|nil=>rfl|cons x xs=>simp at g3
       rw[this]at aD;exact⟨m-1,by omega,1+1,by omega,aQ 1 (by omega),S.drop 0,by rw[<-aD];simp[GR]⟩
     ·have sM:decide (iu aw<=1)=false:=by simpa using g2
      rw[sM]at aD;conv=>whnf
      exact⟨m-1,by omega,1+1,by omega,aQ 1 (by omega),S.drop 0,by rw[<-aD];simp[GR]⟩
    ·conv=>whnf
     exact bH (by rw[<-aD,g1];rfl)
   ·simp only[GR]at aD;conv=>whnf
    refine aI (S.row 1 rfl) ?_;conv=>whnf
    have S0:ah hq [.row k1 (.box (bA.mk (.mk aw n aA cells a b ao agg c al) l r ks).enc)]:=S.drop 0;clear S;have S:=S0;clear S0;conv=>whnf
    refine ga (fun m tm hp=>∃(j:Nat),j+m=ks.length/\tm 46=i64 (j:Nat)/\ah hp [.row k1 (.box (bA.mk (.mk aw n aA cells a b ao agg c al) l r ks).enc)]/\(kL gN (ks.drop j) (al.drop j)=R)) (fun m tm hq bz hI=>?_) (ks.length) ⟨0,by simp,(by first|rfl|kernel_rfl|simp),S,(aD)⟩;obtain⟨j,hj,e46,S2,aD⟩:=hI;have k1:=bz 1 (by kernel_rfl);conv at k1=>rhs;whnf
    rw[<-aP k1];have Z7:=bz 44 (by kernel_rfl);conv at Z7=>rhs;whnf
    rw[<-aP Z7];have Z8:=bz 45 (by kernel_rfl);conv at Z8=>rhs;whnf
    rw[<-aP Z8];rw[<-aP e46];clear bz k1 Z7 Z8 e46;clear S;have S:=S2;clear S2;conv=>whnf
    refine ae (fun h1=>?_) (fun h1=>?_)
    ·have bq:j<ks.length:=by rw[EE]at h1;simpa using h1
     have Ns:j<al.length:=by omega
     have cx:(bA.cz ks)[((j:Nat):Int).toNat]?=some (bA.enc ks[j]):=by rw[aq,qz,au bq];rfl
     have Ui:(ax.cz al)[((j:Nat):Int).toNat]?=some (ax.enc al[j]):=by rw[aq,eK,au Ns];rfl
     rw[Jv bq Ns]at aD;have h2:=Er _ (ay bq) al[j];have h3:=eI _ (ay bq);generalize ks[j]=x at cx aD h2 h3;generalize al[j]=q at Ui aD h2;obtain⟨⟨cd,n',cr,bK,a',b',cm,cX,c',bU⟩,l',r',pc⟩:=x;obtain⟨nv,n2,nx,jQ,Md,b2,nz,tO,c2,nA⟩:=q;simp only[bA.dx]at h2 aD;conv=>whnf
     refine⟨_,cx,by omega,rfl,?_⟩
     iterate 3
      all_goals(try(conv=>whnf))
      all_goals(first|(intro ke cg er bn;replace S:=S.alloc er bn)|(refine .inl ⟨_,S.row 0 rfl,rfl,?_⟩)|(refine .inl ⟨_,S.row 1 rfl,rfl,?_⟩)|(refine⟨_,rfl,rfl,rfl,.inl ⟨_,S.row 0 rfl,rfl,?_⟩⟩;(conv=>whnf);intro cg bn;replace S:=S.w0 bn)|(refine⟨_,rfl,rfl,rfl,.inl ⟨_,S.row 1 rfl,rfl,?_⟩⟩;(conv=>whnf);intro cg bn;replace S:=S.w1 bn)|(refine ae (fun hb=>?_) (fun hb=>?_))|skip)
     conv=>whnf
     refine aI (S.row 1 rfl) ?_;conv=>whnf
     refine⟨_,Ui,by omega,rfl,?_⟩;conv=>whnf
     refine⟨_,h2 _,?_⟩;conv=>whnf
     refine ae (fun g4=>?_) (fun g4=>?_)
     ·rw[g4,aX]at aD;conv=>whnf
      refine aI (S.row 0 rfl) ?_;conv=>whnf
      refine⟨_,h3 _,?_⟩;conv=>whnf
      refine ae (fun g5=>?_) (fun g5=>?_)
      ·rw[g5,aX]at aD;conv=>whnf
       exact⟨m-1,by omega,j+1,by omega,aQ j (by omega),S.drop 0,aD⟩
      ·conv=>whnf
       exact bH (by rw[<-aD,g5];rfl)
     ·conv=>whnf
      exact bH (by rw[<-aD,g4];rfl)
    ·have bq:j=ks.length:=by have: ¬j<ks.length:=by rw[EE]at h1;simpa using h1
                             omega
     conv=>whnf
     exact bH (by rw[<-aD,bq,aL];rfl)
theorem MN(hs:B8 pr)(f:bA)(ht:f.d.eX<=1048576):dm pr 79 [f.enc] (.bool (fit f.dx&&jB gN f)):=by
 have h2:=PY hs _ f (aB _) ht;obtain⟨⟨aw,n,aA,cells,a,b,ao,agg,c,al⟩,l,r,ks⟩:=f;have h1:=Js hs (.mk aw n aA cells a b ao agg c al) (by rw[jv]at ht;unfold ax.small;omega);refine ea hs.tobV rfl rfl ?_;have S:ah [] []:=ah.nil [];conv=>whnf
 intro k1 a1 dw dC;replace S:=S.alloc dw dC;conv=>whnf
 refine aI (S.row 0 rfl) ?_;conv=>whnf
 refine⟨_,h1 _,?_⟩;conv=>whnf
 refine ae (fun g1=>?_) (fun g1=>?_)
 ·conv=>whnf
  refine aI (S.row 0 rfl) ?_;conv=>whnf
  refine⟨_,h2 _,?_⟩;conv=>whnf
  refine ae (fun g2=>?_) (fun g2=>?_)
  ·conv=>whnf
   exact bH (by simp only[bA.dx];rw[g1,g2];rfl)
  ·conv=>whnf
   exact bH (by simp only[bA.dx];rw[g1,g2];rfl)
 ·conv=>whnf
  exact bH (by simp only[bA.dx];rw[g1];rfl)
end Go.Proofs.YtfepbikckfehlaaGreat
set_option maxHeartbeats 4000000
namespace Go.Proofs.YtfepbikckfehlaaGreat
open Go Go.Am
variable{pr:bL}(hp:bV pr)
set_option maxRecDepth 100000
theorem nC{h:aC}{aw n:Int}{aA:Test}{cells:List Cell}{a b:Int}{ao:List Int}{agg col:Int}{al:List ax}{l r:List (List Item)}{ks:List bA}{v:af}{F:List Nat}(o1:bP h (bA.mk (.mk aw n aA cells a b ao agg col al) l r ks).d v F):
  ∃C K D L R KS,v= .agg (bB aw n aA C a b K agg col D [L,R,KS])/\(bB aw n aA C a b K agg col D [L,R,KS]).all af.bE=true:=by
   obtain⟨vv,rfl,hu⟩:=gx.1 o1;obtain⟨C,K,D,Fc,Fk,Fd,w1,G1,rfl,g1,g2,g3,rfl,UK⟩:=OY.1 hu;obtain⟨u2,w2,H2,G2,rfl,rfl,BZ,RK⟩:=Dg.1 UK;obtain⟨L,u3,H3,G3,rfl,rfl,gL,ho4⟩:=kD.1 BZ;obtain⟨rfl,rfl⟩:=eL.1 ho4;obtain⟨u4,w4,H4,G4,rfl,rfl,Yh,Z9⟩:=Dg.1 RK;obtain⟨R,u5,H5,G5,rfl,rfl,gR,ho7⟩:=kD.1 Yh;obtain⟨rfl,rfl⟩:=eL.1 ho7;obtain⟨KS,u6,H6,G6,rfl,rfl,gK,ho8⟩:=kD.1 Z9;obtain⟨rfl,rfl⟩:=eL.1 ho8;exact⟨C,K,D,L,R,KS,rfl,nU g1.cell.2 g2.cell.2 g3.cell.2 (bC gL.cell.2 (bC gR.cell.2 (bC gK.cell.2 rfl)))⟩
theorem K1(h:aC):bP h (.g [bM.d []]) (.agg [.nil]) []:=gx.2 ⟨_,rfl,iF (F1:=[]) (F2:=[]) (by unfold bP;exact .inl ⟨rfl,rfl,.inl rfl⟩) gE⟩
theorem MO(hp:bV pr): ∀(N:Nat)(f:bA),SizeOf.sizeOf f<=N->f.d.eX<=1048576->kC pr 117 [f.enc] f.d:=by
 intro N
 induction N with
 |zero=>intro f h;exfalso;cases f;simp at h
 |succ N ih=>
  intro f hs h;obtain⟨p,l,r,ks⟩:=f;simp only[bA.d,ba.eX,ba.eQ,bA.Di,aO]at h;have Ew:=Ab hp p (O0 (by omega));have hl:=z5 hp l (jR (by omega));have hr:=z5 hp r (jR (by omega));have hk: ∀x∈ks,kC pr 117 [x.enc] x.d:=fun x hx=>ih x (by have:=List.sizeOf_lt_of_mem hx;simp at hs;omega) (by have:=ed (f:=bA.d) hx;omega);have sY:ks.length<=1048576:=by omega
  obtain⟨aw,n,aA,cells,a,b,ao,agg,col,al⟩:=p;clear ih hs h;refine lQ hp rfl ?_;have S:ah [] []:=ah.nil [];conv=>whnf
  intro k1 a1 dw dC;replace S:=S.alloc dw dC;conv=>whnf
  intro k2 a2 jf iB;replace S:=S.alloc jf iB;conv=>whnf
  refine aI (S.row 1 rfl) ?_;conv=>whnf
  refine ek S Ew rfl rfl fun V q1 F1 o1 S1=>?_;replace S:=S1;clear S1 Ew;have UL:=o1;simp only[bP]at UL;rw[kA]at UL;obtain⟨C,K,D,Fc,Fk,Fd,rfl,g1,g2,g3,rfl⟩:=UL;have c1:=g1.cell.2;have c2:=g2.cell.2;have c3:=g3.cell.2;clear o1 g1 g2 g3;conv=>whnf
  refine aI (S.row 2 rfl) ?_;conv=>whnf
  refine ek S hl rfl rfl fun VL q2 F2 o2 S1=>?_;replace S:=S1;clear S1 hl;obtain⟨L,rfl,x2⟩:=XR.box o2;have c4:=(show bP q2 (.s 1 (l.map aE.d)) L F2 from x2).cell.2;clear o2 x2;conv=>whnf
  refine aI (S.row 3 rfl) ?_;conv=>whnf
  refine ek S hr rfl rfl fun VR q3 F3 o3 S1=>?_;replace S:=S1;clear S1 hr;obtain⟨R,rfl,x3⟩:=XR.box o3;have c5:=(show bP q3 (.s 1 (r.map aE.d)) R F3 from x3).cell.2;clear o3 x3;conv=>whnf
  intro k3 a3 kS jN;replace S:=S.alloc kS jN;conv=>whnf
  refine⟨(bB aw n aA C a b K agg col D [L,R,.nil]),(by kernel_rfl),rfl,(nU c1 c2 c3 (bC c4 (bC c5 rfl))),.inl ⟨_,S.row 0 rfl,rfl,?_⟩⟩;conv=>whnf
  intro b1 eN;replace S:=S.w0 eN;conv=>whnf
  replace S:=ah.j7 22 S;have ji:=kM ks;refine dh (fun m tm hp=>∃(j:Nat)(E:af)(F:List Nat),j+m=ks.length/\tm 4=i64 (j:Nat)/\ah hp [.iA 22 ((ks.take j).map bA.d) E F,.row k3 (.box (.agg (bB aw n aA C a b K agg col D [L,R,E]))),.cU (.g [bM.d r]) (.agg [R]) F3,.cU (.g [bM.d l]) (.agg [L]) F2,.cU (.p (.mk aw n aA cells a b ao agg col al)) (lL aw n aA C a b K agg col D) (Fc++(Fk++Fd)),.row k2 (.box KG),.row k1 (.box (bA.mk (.mk aw n aA cells a b ao agg col al) l r ks).enc)]) (fun m tm hq bz hI=>?_) (ks.length) ⟨0,.nil,[],by simp,rfl,S⟩;obtain⟨j,E,F,hj,e4,S2⟩:=hI;have k1:=bz 1 (by kernel_rfl);conv at k1=>rhs;whnf
  have k2:=bz 2 (by kernel_rfl);conv at k2=>rhs;whnf
  have k3:=bz 3 (by kernel_rfl);conv at k3=>rhs;whnf
  refine⟨[(1,_),(2,_),(3,_),(4,_)],⟨k1,k2,k3,e4,trivial⟩,?_⟩;clear bz k1 k2 k3 e4;replace S:=S2;clear S2;conv=>whnf
  have fw:j<4611686018427387904:=by omega
  refine aI (S.row 6 rfl) ?_;conv=>whnf
  refine ae (fun h1=>?_) (fun h1=>?_)
  ·have bq:j<ks.length:=by simpa[kM]using h1
   have cx:(bA.cz ks)[((j:Nat):Int).toNat]?=some (bA.enc ks[j]):=by rw[aq,qz];simp[bq]
   have hz:=hk ks[j] (ay bq);have cY:=js bA.d bq;generalize ks[j]=q at cx cY hz;obtain⟨⟨cd,n',cr,bK,a',b',cm,cX,jb,bU⟩,l',r',pc⟩:=q;conv=>whnf
   refine aI (S.row 1 rfl) ?_;conv=>whnf
   refine aI (S.row 6 rfl) ?_;conv=>whnf
   refine⟨_,cx,by omega,rfl,?_⟩;conv=>whnf
   refine ek S hz rfl rfl fun A q1 F1 o1 S1=>?_;replace S:=S1.swap;clear S1;obtain⟨C',K',D',L',R',UM,rfl,rq⟩:=nC o1;conv=>whnf
   intro nM nN de dg;replace S:=S.alloc de dg;conv=>whnf
   refine⟨trivial,?_⟩;conv=>whnf
   refine⟨[_],bG (S.row 0 rfl),ef rfl rq,?_⟩;replace S:=S.drop 0;dsimp only[List.eraseIdx]at S;refine jM (sz:=22) (d:=(bA.mk (.mk cd n' cr bK a' b' cm cX jb bU) l' r' pc).d) S (by simp[br];omega) fun k5 h5 F5 S2=>?_;clear S;have S:=S2;clear S2;conv=>whnf
   refine⟨_,rfl,rfl,rfl,.inl ⟨_,S.row 1 rfl,rfl,?_⟩⟩;conv=>whnf
   intro h6 fO;replace S:=S.w1 fO;conv=>whnf
   exact⟨m-1,by omega,j+1,_,_,by omega,aQ j fw,by rw[cY];exact S⟩
  ·have bq:j=ks.length:=by
    have: ¬j<ks.length:=by simpa[kM]using h1
    omega
   subst bq;rw[aS]at S;have oE:=(ah.dv S).get 0 rfl;have c6:=(show bP hq (.s 22 (ks.map bA.d)) E F from oE).cell.2;clear oE;conv=>whnf
   refine aI (S.row 1 rfl) ?_;conv=>whnf
   refine⟨(bB aw n aA C a b K agg col D [L,R,E]),(by kernel_rfl),rfl,(nU c1 c2 c3 (bC c4 (bC c5 (bC c6 rfl)))),.inl ⟨_,S.row 5 rfl,rfl,?_⟩⟩;conv=>whnf
   intro b4 iH;replace S:=S.w5 iH;conv=>whnf
   replace S:=ah.dv S;rw[<-bA.Di]at S;replace S:=S.pick [5,4,3,2,0] (by decide);simp only[kB,List.getElem?_cons_zero,List.getElem?_cons_succ]at S;refine yx (vs:=(bB aw n aA C a b K agg col D [L,R,E])) rfl rfl (S.row 0 rfl) (by kernel_rfl) (Dh (S.get 1 rfl) (KF (S.get 2 rfl) (KF (S.get 3 rfl) (iF (S.get 4 rfl) gE)))) (S.drop 0).rF
theorem GS(hp:bV pr)(f:bA)(h:f.d.eX<=1048576):kC pr 117 [f.enc] f.d:=MO hp _ f (aB _) h
mutual
def gQ:ax->bA
 | .mk aw n aA cells a b ao agg col al=>.mk (.mk aw n aA cells a b ao agg col al) [] [] (eT al)
def eT:List ax->List bA
 | []=>[]
 |p::ps=>gQ p::eT ps
end
theorem GU(ps:List ax):eT ps=ps.map gQ:=by induction ps with|nil=>rfl|cons x xs ih=>simp[eT,ih]
theorem R7(hp:bV pr): ∀(N:Nat)(p:ax),SizeOf.sizeOf p<=N->p.small->kC pr 114 [p.enc] (gQ p).d:=by
 intro N
 induction N with
 |zero=>intro p h;exfalso;cases p;simp at h
 |succ N ih=>
  intro p hs fm;obtain⟨aw,n,aA,cells,a,b,ao,agg,col,al⟩:=p;have Ew:=Ab hp _ fm;obtain⟨qM,jK,fL,fB⟩:=dK fm;have hk: ∀x∈al,kC pr 114 [x.enc] (gQ x).d:=fun x hx=>ih x (by have:=List.sizeOf_lt_of_mem hx;simp at hs;omega) (fB x hx);clear ih hs;rw[show(gQ (.mk aw n aA cells a b ao agg col al)).d=(bA.mk (.mk aw n aA cells a b ao agg col al) [] [] (al.map gQ)).d by rw[<-GU];rfl];refine lQ hp rfl ?_;have S:ah [] []:=ah.nil [];conv=>whnf
  intro k1 a1 dw dC;replace S:=S.alloc dw dC;conv=>whnf
  intro k2 a2 jf iB;replace S:=S.alloc jf iB;conv=>whnf
  refine aI (S.row 1 rfl) ?_;conv=>whnf
  refine ek S Ew rfl rfl fun V q1 F1 o1 S1=>?_;replace S:=S1;clear S1 Ew;have UL:=o1;simp only[bP]at UL;rw[kA]at UL;obtain⟨C,K,D,Fc,Fk,Fd,rfl,g1,g2,g3,rfl⟩:=UL;have c1:=g1.cell.2;have c2:=g2.cell.2;have c3:=g3.cell.2;clear o1 g1 g2 g3;conv=>whnf
  intro k3 a3 kS jN;replace S:=S.alloc kS jN;conv=>whnf
  refine⟨(bB aw n aA C a b K agg col D [.nil,.nil,.nil]),(by kernel_rfl),rfl,(nU c1 c2 c3 rfl),.inl ⟨_,S.row 0 rfl,rfl,?_⟩⟩;conv=>whnf
  intro b1 eN;replace S:=S.w0 eN;conv=>whnf
  replace S:=ah.j7 22 S;have ji:=dM al;refine dh (fun m tm hp=>∃(j:Nat)(E:af)(F:List Nat),j+m=al.length/\tm 4=i64 (j:Nat)/\ah hp [.iA 22 (((al.take j).map gQ).map bA.d) E F,.row k3 (.box (.agg (bB aw n aA C a b K agg col D [.nil,.nil,E]))),.cU (.p (.mk aw n aA cells a b ao agg col al)) (lL aw n aA C a b K agg col D) (Fc++(Fk++Fd)),.row k2 (.box KG),.row k1 (.box (ax.mk aw n aA cells a b ao agg col al).enc)]) (fun m tm hq bz hI=>?_) (al.length) ⟨0,.nil,[],by simp,rfl,S⟩;obtain⟨j,E,F,hj,e4,S2⟩:=hI;have k1:=bz 1 (by kernel_rfl);conv at k1=>rhs;whnf
  have k2:=bz 2 (by kernel_rfl);conv at k2=>rhs;whnf
  have k3:=bz 3 (by kernel_rfl);conv at k3=>rhs;whnf
  refine⟨[(1,_),(2,_),(3,_),(4,_)],⟨k1,k2,k3,e4,trivial⟩,?_⟩;clear bz k1 k2 k3 e4;replace S:=S2;clear S2;conv=>whnf
  have fw:j<4611686018427387904:=by omega
  refine aI (S.row 4 rfl) ?_;conv=>whnf
  refine ae (fun h1=>?_) (fun h1=>?_)
  ·have bq:j<al.length:=by simpa[dM]using h1
   have cx:(ax.cz al)[((j:Nat):Int).toNat]?=some (ax.enc al[j]):=by rw[aq,eK];simp[bq]
   have hz:=hk al[j] (ay bq);have cY:=js (fun p=>(gQ p).d) bq;generalize al[j]=q at cx cY hz;obtain⟨cd,n',cr,bK,a',b',cm,cX,jb,bU⟩:=q;conv=>whnf
   refine aI (S.row 1 rfl) ?_;conv=>whnf
   refine aI (S.row 4 rfl) ?_;conv=>whnf
   refine⟨_,cx,by omega,rfl,?_⟩;conv=>whnf
   refine ek S hz rfl rfl fun A q1 F1 o1 S1=>?_;replace S:=S1.swap;clear S1;obtain⟨C',K',D',L',R',UM,rfl,rq⟩:=nC o1;conv=>whnf
   intro nM nN de dg;replace S:=S.alloc de dg;conv=>whnf
   refine⟨trivial,?_⟩;conv=>whnf
   refine⟨[_],bG (S.row 0 rfl),ef rfl rq,?_⟩;replace S:=S.drop 0;dsimp only[List.eraseIdx]at S;refine jM (sz:=22) (d:=(gQ (.mk cd n' cr bK a' b' cm cX jb bU)).d) S (by simp[br];omega) fun k5 h5 F5 S2=>?_;clear S;have S:=S2;clear S2;conv=>whnf
   refine⟨_,rfl,rfl,rfl,.inl ⟨_,S.row 1 rfl,rfl,?_⟩⟩;conv=>whnf
   intro h6 fO;replace S:=S.w1 fO;conv=>whnf
   exact⟨m-1,by omega,j+1,_,_,by omega,aQ j fw,by rw[List.map_map]at S⊢;exact(show _=_ from cY)▸S⟩
  ·have bq:j=al.length:=by
    have: ¬j<al.length:=by simpa[dM]using h1
    omega
   subst bq;rw[aS]at S;have oE:=(ah.dv S).get 0 rfl;have c6:=(show bP hq (.s 22 ((al.map gQ).map bA.d)) E F from oE).cell.2;clear oE;conv=>whnf
   refine aI (S.row 1 rfl) ?_;conv=>whnf
   refine⟨(bB aw n aA C a b K agg col D [.nil,.nil,E]),(by kernel_rfl),rfl,(nU c1 c2 c3 (bC rfl (bC rfl (bC c6 rfl)))),.inl ⟨_,S.row 3 rfl,rfl,?_⟩⟩;conv=>whnf
   intro b4 iH;replace S:=S.w3 iH;conv=>whnf
   replace S:=ah.dv S;rw[<-bA.Di]at S;replace S:=S.pick [3,2,0] (by decide);simp only[kB,List.getElem?_cons_zero,List.getElem?_cons_succ]at S;refine yx (vs:=(bB aw n aA C a b K agg col D [.nil,.nil,E])) rfl rfl (S.row 0 rfl) (by kernel_rfl) (Dh (S.get 1 rfl) (gJ (K1 _) (gJ (K1 _) (iF (S.get 2 rfl) gE)))) (S.drop 0).rF
theorem UN(hp:bV pr)(p:ax)(fm:p.small):kC pr 114 [p.enc] (gQ p).d:=R7 hp _ p (aB _) fm
end Go.Proofs.YtfepbikckfehlaaGreat
set_option maxHeartbeats 4000000
namespace Go.Proofs.YtfepbikckfehlaaGreat
open Go Go.Am
variable{pr:bL}(hp:bV pr)(hs:B8 pr)
set_option maxRecDepth 100000
mutual
def lT:Nat->bA->Bool
 |0,_=>false
 |d+1,.mk p l r ks=>(ks.length==p.al.length)&&(ju en p.aw l r&&mu d ks p.al)
def mu:Nat->List bA->List ax->Bool
 |d,f::fs,q::qs=>(eb f.dx q&&lT d f)&&mu d fs qs
 |_,_,_=>true
end
theorem PZ{d:Nat}{ks:List bA}{qs:List ax}{j:Nat}(h1:j<ks.length)(h2:j<qs.length):mu d (ks.drop j) (qs.drop j)=((eb ks[j].dx qs[j]&&lT d ks[j])&&mu d (ks.drop (j+1)) (qs.drop (j+1))):=by
 rw[ar h1,ar h2,mu]
theorem MP{d:Nat}{ks:List bA}{qs:List ax}:mu d (ks.drop ks.length) qs=true:=by
 rw[aL,mu]
 intros
 simp_all
theorem P1(hp:bV pr): ∀(d:Nat)(f:bA),f.d.eX<=1048576->d<=6->dm pr 98 [f.enc,i64 d] (.bool (lT d f)):=by
 intro d
 induction d with
 |zero=>
  intro f ht hd;obtain⟨⟨aw,n,aA,cells,a,b,ao,agg,c,al⟩,l,r,ks⟩:=f;refine ea hp rfl rfl ?_;have S:ah [] []:=ah.nil [];conv=>whnf
  intro k1 a1 dw dC;replace S:=S.alloc dw dC;conv=>whnf
  exact bH (by simp[lT])
 |succ d ih=>
  intro f ht hd;obtain⟨⟨aw,n,aA,cells,a,b,ao,agg,c,al⟩,l,r,ks⟩:=f;rw[jv]at ht;have hl:=pA hp l (jR (by omega));have hr:=pA hp r (jR (by omega));have ji:=dM al;have EE:=kM ks;have fm:(ax.mk aw n aA cells a b ao agg c al).small:=by unfold ax.small;omega
  obtain⟨qM,jK,fL,fB⟩:=dK fm;have hw:=wI d (by omega);have eI: ∀k∈ks,dm pr 98 [k.enc,.int .i64 (IntKind.i64.wrap (((d+1:Nat):Int)-1))] (.bool (lT d k)):=fun k hk=>hw▸ih k (by have:=ed (f:=bA.d) hk;omega) (by omega)
  have Er: ∀k∈ks,∀q∈al,dm pr 105 [k.dx.enc,q.enc] (.bool (eb k.dx q)):=fun k hk q hq=>GQ hp _ q (by
   have:=ed (f:=bA.d) hk;obtain⟨p',l',r',pc⟩:=k;rw[jv]at this;simp only[bA.dx,ax.small];omega) (fB q hq)
  have Z4:ks.length<=1048576:=by omega
  clear ih ht hw;generalize hR:lT (d+1) (.mk (.mk aw n aA cells a b ao agg c al) l r ks)=R;rw[lT,ju]at hR;simp only[ax.aw,ax.al]at hR;refine ea hp rfl rfl ?_;have S:ah [] []:=ah.nil [];conv=>whnf
  intro k1 a1 dw dC;replace S:=S.alloc dw dC;clear dw dC;conv=>whnf
  refine aI (S.row 0 rfl) ?_;conv=>whnf
  refine aI (S.row 0 rfl) ?_;conv=>whnf
  refine ae (fun g0=>?_) (fun g0=>?_)
  ·conv=>whnf
   exact bH (by rw[<-hR];rw[ji,EE]at g0;have:(ks.length==al.length)=false:=by simp at g0⊢;omega
                rw[this];rfl)
  ·have hlen:ks.length=al.length:=by rw[ji,EE]at g0;simp at g0;omega
   rw[show(ks.length==al.length)=true by simp[hlen],aX]at hR;clear g0;conv=>whnf
   refine aI (S.row 0 rfl) ?_;conv=>whnf
   refine⟨_,hl _,?_⟩;conv=>whnf
   refine ae (fun g1=>?_) (fun g1=>?_)
   ·rw[g1,aX]at hR;conv=>whnf
    refine aI (S.row 0 rfl) ?_;conv=>whnf
    refine⟨_,hr _,?_⟩;conv=>whnf
    refine ae (fun g2=>?_) (fun g2=>?_)
    ·rw[g2,aX]at hR;have S0:ah a1 [.row k1 (.box (bA.mk (.mk aw n aA cells a b ao agg c al) l r ks).enc)]:=S;clear S;have S:=S0;clear S0;have e1:l.isEmpty=true↔l.length=0:=by cases l<;>simp
     have e2:r.isEmpty=true↔r.length=0:=by cases r<;>simp
     iterate 14
      all_goals(try(conv=>whnf))
      all_goals(first|(intro ke cg er bn;replace S:=S.alloc er bn)|(refine .inl ⟨_,S.row 0 rfl,rfl,?_⟩)|(refine⟨_,rfl,rfl,rfl,.inl ⟨_,S.row 0 rfl,rfl,?_⟩⟩;(conv=>whnf);intro cg bn;replace S:=S.w0 bn)|(refine ae (fun hb=>?_) (fun hb=>?_))|skip)
     all_goals(try(conv=>whnf))
     all_goals first
      |exact bH (by rw[<-hR];clear hR eI Er S hl hr;cases l<;>cases r<;>simp_all[iu])
      |skip
     all_goals
      have aD:mu d ks al=R:=by rw[<-hR];clear hR eI Er S hl hr;cases l<;>cases r<;>simp_all[iu]
      clear hR;refine ga (fun m tm hp=>∃(j:Nat),j+m=ks.length/\tm 7=i64 (j:Nat)/\ah hp [.row k1 (.box (bA.mk (.mk aw n aA cells a b ao agg c al) l r ks).enc)]/\(mu d (ks.drop j) (al.drop j)=R)) (fun m tm hq bz hI=>?_) (ks.length) ⟨0,by simp,(by first|rfl|kernel_rfl|simp),S,(aD)⟩;obtain⟨j,hj,e7,S2,aD⟩:=hI;have k1:=bz 1 (by kernel_rfl);conv at k1=>rhs;whnf
      rw[<-aP k1];have k2:=bz 2 (by kernel_rfl);conv at k2=>rhs;whnf
      rw[<-aP k2];rw[<-aP e7];clear bz k1 k2 e7;clear S;have S:=S2;clear S2;conv=>whnf
      refine aI (S.row 0 rfl) ?_;conv=>whnf
      refine ae (fun h1=>?_) (fun h1=>?_)
      ·have bq:j<ks.length:=by rw[EE]at h1;simpa using h1
       have Ns:j<al.length:=by omega
       have cx:(bA.cz ks)[((j:Nat):Int).toNat]?=some (bA.enc ks[j]):=by rw[aq,qz,au bq];rfl
       have Ui:(ax.cz al)[((j:Nat):Int).toNat]?=some (ax.enc al[j]):=by rw[aq,eK,au Ns];rfl
       rw[PZ bq Ns]at aD;have h2:=Er _ (ay bq) _ (ay Ns);have h3:=eI _ (ay bq);generalize ks[j]=x at cx aD h2 h3;generalize al[j]=q at Ui aD h2;obtain⟨⟨cd,n',cr,bK,a',b',cm,cX,c',bU⟩,l',r',pc⟩:=x;obtain⟨nv,n2,nx,jQ,Md,b2,nz,tO,c2,nA⟩:=q;simp only[bA.dx]at h2 aD;conv=>whnf
       refine aI (S.row 0 rfl) ?_;conv=>whnf
       refine⟨_,cx,by omega,rfl,?_⟩;conv=>whnf
       refine aI (S.row 0 rfl) ?_;conv=>whnf
       refine⟨_,Ui,by omega,rfl,?_⟩;conv=>whnf
       refine⟨_,h2 _,?_⟩;conv=>whnf
       refine ae (fun g4=>?_) (fun g4=>?_)
       ·rw[g4,aX]at aD;conv=>whnf
        refine aI (S.row 0 rfl) ?_;conv=>whnf
        refine⟨_,cx,by omega,rfl,?_⟩;conv=>whnf
        refine⟨_,h3 _,?_⟩;conv=>whnf
        refine ae (fun g5=>?_) (fun g5=>?_)
        ·rw[g5,aX]at aD;conv=>whnf
         exact⟨m-1,by omega,j+1,by omega,aQ j (by omega),S,aD⟩
        ·conv=>whnf
         exact bH (by rw[<-aD,g5];rfl)
       ·conv=>whnf
        exact bH (by rw[<-aD,g4];rfl)
      ·have bq:j=ks.length:=by
        have: ¬j<ks.length:=by rw[EE]at h1;simpa using h1
        omega
       conv=>whnf
       exact bH (by rw[<-aD,bq,MP])
    ·conv=>whnf
     exact bH (by rw[<-hR,g2];simp)
   ·conv=>whnf
    exact bH (by rw[<-hR,g1];rfl)
end Go.Proofs.YtfepbikckfehlaaGreat

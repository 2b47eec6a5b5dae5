/- The look at every function of the seat. -/
import Derived.Test.YtfepbikckfehlaaGreatGH13
import Derived.Test.YtfepbikckfehlaaGreatGH12
set_option linter.unusedVariables false
set_option linter.unusedSimpArgs false
set_option maxHeartbeats 4000000
namespace Go.Proofs.YtfepbikckfehlaaGreat
open Go Go.Am
variable{pr:bW}(hp:cF pr)
set_option maxRecDepth 100000
def own:aA->Bool
 | .mk au n aD cells a b aq agg c _=>
  if au=1 then decide (0<=n)&&decide (n<3)
  else if au=2 then kZ aD 6
  else if au=3 then j9 cells 6
  else if au=4 then col a 6&&col b 6
  else if au=7 then eU aq 6&&(decide (0<=agg)&&(decide (agg<=3)&&col c 6))
  else true
def form:Nat->aA->Bool
 |0,_=>false
 |d+1,p=>(cU p.au==p.ao.length)&&(clean p&&(own p&&p.ao.all (form d)))
theorem xQ(d:Nat)(h:d<4611686018427387904):af.int .i64 (IntKind.i64.wrap (((d+1:Nat):Int)-1))=i64 (d:Nat):=by
 have:IntKind.i64.wrap (((d+1:Nat):Int)-1)=(d:Nat):=by rw[aaC];omega
 rw[this];rfl
set_option maxHeartbeats 4000000 in
theorem Qy(hp:cF pr): ∀(d:Nat)(p:aA),p.small->d<=6->dK pr 126 [p.enc,i64 d] (.bool (form d p)):=by
 intro d
 induction d with
 |zero=>
  intro p gu _;obtain⟨au,n,aD,cells,a,b,aq,agg,c,ao⟩:=p;refine cX hp rfl rfl ?_;conv=>whnf
  exact bw rfl
 |succ d ih=>
  intro p gu hd;obtain⟨au,n,aD,cells,a,b,aq,agg,c,ao⟩:=p;obtain⟨sc,lf,gS,gE⟩:=eE gu;have Gf:decide (((d+1:Nat):Int)<1)=false:=by simp;omega
  have hw:=xQ d (by omega);have kN:=fun(q:aA)(hq:q∈ao)=>hw▸ih q (gE q hq) (by omega);have kD:=eH ao;refine cX hp rfl rfl ?_;have eh:=lV hp au;have jM:=kg hp (.mk au n aD cells a b aq agg c ao);have qI:=oa hp aD 6;have qc:=qH hp cells 6 sc;have pX:=m9 hp aq 6 lf;have pH:=fun n=>kS hp n 6;rcases fU au with rfl|rfl|rfl|rfl|rfl|rfl|rfl|⟨h1,h2,h3,h4,h5,h6,h7⟩
  ·iterate 16
    all_goals(try(conv=>whnf))
    all_goals(first|(refine bm Gf ?_)|(refine bm h1 ?_)|(refine bm h2 ?_)|(refine bm h3 ?_)|(refine bm h4 ?_)|(refine bm h7 ?_)|(refine ae (fun hb=>?_) (fun hb=>?_))|(refine⟨_,eh _,?_⟩)|(refine⟨_,jM _,?_⟩)|(refine⟨_,qI _,?_⟩)|(refine⟨_,qc _,?_⟩)|(refine⟨_,pX _,?_⟩)|(refine⟨_,pH _ _,?_⟩)|skip)
   all_goals(first
    |exact bw (by clear ih kN eh jM qI qc pX pH hw gE gu;simp only[form,aA.au,aA.ao];rw[kD]at*;simp_all;done)
    |skip)
   all_goals
    refine eD (fun m st=>∃(j:Nat)(ok:Bool),j+m=ao.length/\st.tm 1=i64 ((d+1:Nat):Int)/\st.tm 2= .ptr 0 0 0/\st.tm 5= .bool ok/\st.tm 6=i64 (j:Nat)/\st.hp=[.box (aA.mk 1 n aD cells a b aq agg c ao).enc]/\(own (aA.mk 1 n aD cells a b aq agg c ao)&&ao.all (form d))=(ok&&(ao.drop j).all (form d))) (fun m st hI=>?_) ao.length _ ⟨0,_,by simp,rfl,rfl,rfl,rfl,rfl,by clear ih kN eh jM qI qc pX pH hw gE gu kD sc lf gS Gf;first|(simp_all[own];done)|(simp_all[own];intros;omega)⟩
    have oQ:form (d+1) (aA.mk 1 n aD cells a b aq agg c ao)=(own (aA.mk 1 n aD cells a b aq agg c ao)&&ao.all (form d)):=by
     clear ih kN eh jM qI qc pX pH hw gE gu hI;simp only[form,aA.au,aA.ao];rw[kD]at*;simp_all
    obtain⟨j,ok,hj,e1,e2,e5,e6,hh,aF⟩:=hI;rw[oQ];obtain⟨tm,hq⟩:=st;simp only at e1 e2 e5 e6 hh;subst hh;rw[show tm=fX (fX (fX (fX tm 1 (i64 ((d+1:Nat):Int))) 2 (.ptr 0 0 0)) 5 (.bool ok)) 6 (i64 (j:Nat)) by rw[aR e1,aR e2,aR e5,aR e6]];clear e1 e2 e5 e6;conv=>whnf
    refine ae (fun g1=>?_) (fun g1=>?_)
    ·have bp:j<ao.length:=by have:j<(aA.dv ao).length:=by simpa using g1
                             omega
     conv=>whnf
     refine ae (fun g2=>?_) (fun g2=>?_)
     ·have eb:ok=true:=g2;subst eb;rw[aaf bp,abi]at aF;have eZ:=kN ao[j] (aac bp);have dw:(aA.dv ao)[((j:Nat):Int).toNat]?=some ao[j].enc:=by rw[aaa,fN,aab bp];rfl
      generalize ao[j]=q at eZ dw aF;obtain⟨cG,n',dq,bR,a',b',cH,dE,c',cE⟩:=q;conv=>whnf
      refine⟨_,dw,by omega,rfl,?_⟩;conv=>whnf
      refine⟨_,eZ _,?_⟩;conv=>whnf
      refine ae (fun g3=>?_) (fun g3=>?_)
      ·conv=>whnf
       exact⟨m-1,by omega,j+1,true,by omega,rfl,rfl,rfl,aP j (by omega),rfl,by rw[aF,g3];rfl⟩
      ·conv=>whnf
       exact⟨m-1,by omega,j+1,false,by omega,rfl,rfl,rfl,aP j (by omega),rfl,by rw[aF,g3];rfl⟩
     ·have eb:ok=false:=g2;subst eb;conv=>whnf
      exact bw (by rw[aF];rfl)
    ·have bp:j=ao.length:=by have: ¬j<(aA.dv ao).length:=by simpa using g1
                             omega
     subst bp;rw[aal]at aF;conv=>whnf
     exact bw (by rw[aF];simp)
  ·iterate 16
    all_goals(try(conv=>whnf))
    all_goals(first|(refine bm Gf ?_)|(refine bm h1 ?_)|(refine bm h2 ?_)|(refine bm h3 ?_)|(refine bm h4 ?_)|(refine bm h7 ?_)|(refine ae (fun hb=>?_) (fun hb=>?_))|(refine⟨_,eh _,?_⟩)|(refine⟨_,jM _,?_⟩)|(refine⟨_,qI _,?_⟩)|(refine⟨_,qc _,?_⟩)|(refine⟨_,pX _,?_⟩)|(refine⟨_,pH _ _,?_⟩)|skip)
   all_goals(first
    |exact bw (by clear ih kN eh jM qI qc pX pH hw gE gu;simp only[form,aA.au,aA.ao];rw[kD]at*;simp_all;done)
    |skip)
   all_goals
    refine eD (fun m st=>∃(j:Nat)(ok:Bool),j+m=ao.length/\st.tm 1=i64 ((d+1:Nat):Int)/\st.tm 2= .ptr 0 0 0/\st.tm 5= .bool ok/\st.tm 6=i64 (j:Nat)/\st.hp=[.box (aA.mk 2 n aD cells a b aq agg c ao).enc]/\(own (aA.mk 2 n aD cells a b aq agg c ao)&&ao.all (form d))=(ok&&(ao.drop j).all (form d))) (fun m st hI=>?_) ao.length _ ⟨0,_,by simp,rfl,rfl,rfl,rfl,rfl,by clear ih kN eh jM qI qc pX pH hw gE gu kD sc lf gS Gf;first|(simp_all[own];done)|(simp_all[own];intros;omega)⟩
    have oQ:form (d+1) (aA.mk 2 n aD cells a b aq agg c ao)=(own (aA.mk 2 n aD cells a b aq agg c ao)&&ao.all (form d)):=by
     clear ih kN eh jM qI qc pX pH hw gE gu hI;simp only[form,aA.au,aA.ao];rw[kD]at*;simp_all
    obtain⟨j,ok,hj,e1,e2,e5,e6,hh,aF⟩:=hI;rw[oQ];obtain⟨tm,hq⟩:=st;simp only at e1 e2 e5 e6 hh;subst hh;rw[show tm=fX (fX (fX (fX tm 1 (i64 ((d+1:Nat):Int))) 2 (.ptr 0 0 0)) 5 (.bool ok)) 6 (i64 (j:Nat)) by rw[aR e1,aR e2,aR e5,aR e6]];clear e1 e2 e5 e6;conv=>whnf
    refine ae (fun g1=>?_) (fun g1=>?_)
    ·have bp:j<ao.length:=by have:j<(aA.dv ao).length:=by simpa using g1
                             omega
     conv=>whnf
     refine ae (fun g2=>?_) (fun g2=>?_)
     ·have eb:ok=true:=g2;subst eb;rw[aaf bp,abi]at aF;have eZ:=kN ao[j] (aac bp);have dw:(aA.dv ao)[((j:Nat):Int).toNat]?=some ao[j].enc:=by rw[aaa,fN,aab bp];rfl
      generalize ao[j]=q at eZ dw aF;obtain⟨cG,n',dq,bR,a',b',cH,dE,c',cE⟩:=q;conv=>whnf
      refine⟨_,dw,by omega,rfl,?_⟩;conv=>whnf
      refine⟨_,eZ _,?_⟩;conv=>whnf
      refine ae (fun g3=>?_) (fun g3=>?_)
      ·conv=>whnf
       exact⟨m-1,by omega,j+1,true,by omega,rfl,rfl,rfl,aP j (by omega),rfl,by rw[aF,g3];rfl⟩
      ·conv=>whnf
       exact⟨m-1,by omega,j+1,false,by omega,rfl,rfl,rfl,aP j (by omega),rfl,by rw[aF,g3];rfl⟩
     ·have eb:ok=false:=g2;subst eb;conv=>whnf
      exact bw (by rw[aF];rfl)
    ·have bp:j=ao.length:=by have: ¬j<(aA.dv ao).length:=by simpa using g1
                             omega
     subst bp;rw[aal]at aF;conv=>whnf
     exact bw (by rw[aF];simp)
  ·iterate 16
    all_goals(try(conv=>whnf))
    all_goals(first|(refine bm Gf ?_)|(refine bm h1 ?_)|(refine bm h2 ?_)|(refine bm h3 ?_)|(refine bm h4 ?_)|(refine bm h7 ?_)|(refine ae (fun hb=>?_) (fun hb=>?_))|(refine⟨_,eh _,?_⟩)|(refine⟨_,jM _,?_⟩)|(refine⟨_,qI _,?_⟩)|(refine⟨_,qc _,?_⟩)|(refine⟨_,pX _,?_⟩)|(refine⟨_,pH _ _,?_⟩)|skip)
   all_goals(first
    |exact bw (by clear ih kN eh jM qI qc pX pH hw gE gu;simp only[form,aA.au,aA.ao];rw[kD]at*;simp_all;done)
    |skip)
   all_goals
    refine eD (fun m st=>∃(j:Nat)(ok:Bool),j+m=ao.length/\st.tm 1=i64 ((d+1:Nat):Int)/\st.tm 2= .ptr 0 0 0/\st.tm 5= .bool ok/\st.tm 6=i64 (j:Nat)/\st.hp=[.box (aA.mk 3 n aD cells a b aq agg c ao).enc]/\(own (aA.mk 3 n aD cells a b aq agg c ao)&&ao.all (form d))=(ok&&(ao.drop j).all (form d))) (fun m st hI=>?_) ao.length _ ⟨0,_,by simp,rfl,rfl,rfl,rfl,rfl,by clear ih kN eh jM qI qc pX pH hw gE gu kD sc lf gS Gf;first|(simp_all[own];done)|(simp_all[own];intros;omega)⟩
    have oQ:form (d+1) (aA.mk 3 n aD cells a b aq agg c ao)=(own (aA.mk 3 n aD cells a b aq agg c ao)&&ao.all (form d)):=by
     clear ih kN eh jM qI qc pX pH hw gE gu hI;simp only[form,aA.au,aA.ao];rw[kD]at*;simp_all
    obtain⟨j,ok,hj,e1,e2,e5,e6,hh,aF⟩:=hI;rw[oQ];obtain⟨tm,hq⟩:=st;simp only at e1 e2 e5 e6 hh;subst hh;rw[show tm=fX (fX (fX (fX tm 1 (i64 ((d+1:Nat):Int))) 2 (.ptr 0 0 0)) 5 (.bool ok)) 6 (i64 (j:Nat)) by rw[aR e1,aR e2,aR e5,aR e6]];clear e1 e2 e5 e6;conv=>whnf
    refine ae (fun g1=>?_) (fun g1=>?_)
    ·have bp:j<ao.length:=by have:j<(aA.dv ao).length:=by simpa using g1
                             omega
     conv=>whnf
     refine ae (fun g2=>?_) (fun g2=>?_)
     ·have eb:ok=true:=g2;subst eb;rw[aaf bp,abi]at aF;have eZ:=kN ao[j] (aac bp);have dw:(aA.dv ao)[((j:Nat):Int).toNat]?=some ao[j].enc:=by rw[aaa,fN,aab bp];rfl
      generalize ao[j]=q at eZ dw aF;obtain⟨cG,n',dq,bR,a',b',cH,dE,c',cE⟩:=q;conv=>whnf
      refine⟨_,dw,by omega,rfl,?_⟩;conv=>whnf
      refine⟨_,eZ _,?_⟩;conv=>whnf
      refine ae (fun g3=>?_) (fun g3=>?_)
      ·conv=>whnf
       exact⟨m-1,by omega,j+1,true,by omega,rfl,rfl,rfl,aP j (by omega),rfl,by rw[aF,g3];rfl⟩
      ·conv=>whnf
       exact⟨m-1,by omega,j+1,false,by omega,rfl,rfl,rfl,aP j (by omega),rfl,by rw[aF,g3];rfl⟩
     ·have eb:ok=false:=g2;subst eb;conv=>whnf
      exact bw (by rw[aF];rfl)
    ·have bp:j=ao.length:=by have: ¬j<(aA.dv ao).length:=by simpa using g1
                             omega
     subst bp;rw[aal]at aF;conv=>whnf
     exact bw (by rw[aF];simp)
  ·iterate 16
    all_goals(try(conv=>whnf))
    all_goals(first|(refine bm Gf ?_)|(refine bm h1 ?_)|(refine bm h2 ?_)|(refine bm h3 ?_)|(refine bm h4 ?_)|(refine bm h7 ?_)|(refine ae (fun hb=>?_) (fun hb=>?_))|(refine⟨_,eh _,?_⟩)|(refine⟨_,jM _,?_⟩)|(refine⟨_,qI _,?_⟩)|(refine⟨_,qc _,?_⟩)|(refine⟨_,pX _,?_⟩)|(refine⟨_,pH _ _,?_⟩)|skip)
   all_goals(first
    |exact bw (by clear ih kN eh jM qI qc pX pH hw gE gu;simp only[form,aA.au,aA.ao];rw[kD]at*;simp_all;done)
    |skip)
   all_goals
    refine eD (fun m st=>∃(j:Nat)(ok:Bool),j+m=ao.length/\st.tm 1=i64 ((d+1:Nat):Int)/\st.tm 2= .ptr 0 0 0/\st.tm 5= .bool ok/\st.tm 6=i64 (j:Nat)/\st.hp=[.box (aA.mk 4 n aD cells a b aq agg c ao).enc]/\(own (aA.mk 4 n aD cells a b aq agg c ao)&&ao.all (form d))=(ok&&(ao.drop j).all (form d))) (fun m st hI=>?_) ao.length _ ⟨0,_,by simp,rfl,rfl,rfl,rfl,rfl,by clear ih kN eh jM qI qc pX pH hw gE gu kD sc lf gS Gf;first|(simp_all[own];done)|(simp_all[own];intros;omega)⟩
    have oQ:form (d+1) (aA.mk 4 n aD cells a b aq agg c ao)=(own (aA.mk 4 n aD cells a b aq agg c ao)&&ao.all (form d)):=by
     clear ih kN eh jM qI qc pX pH hw gE gu hI;simp only[form,aA.au,aA.ao];rw[kD]at*;simp_all
    obtain⟨j,ok,hj,e1,e2,e5,e6,hh,aF⟩:=hI;rw[oQ];obtain⟨tm,hq⟩:=st;simp only at e1 e2 e5 e6 hh;subst hh;rw[show tm=fX (fX (fX (fX tm 1 (i64 ((d+1:Nat):Int))) 2 (.ptr 0 0 0)) 5 (.bool ok)) 6 (i64 (j:Nat)) by rw[aR e1,aR e2,aR e5,aR e6]];clear e1 e2 e5 e6;conv=>whnf
    refine ae (fun g1=>?_) (fun g1=>?_)
    ·have bp:j<ao.length:=by have:j<(aA.dv ao).length:=by simpa using g1
                             omega
     conv=>whnf
     refine ae (fun g2=>?_) (fun g2=>?_)
     ·have eb:ok=true:=g2;subst eb;rw[aaf bp,abi]at aF;have eZ:=kN ao[j] (aac bp);have dw:(aA.dv ao)[((j:Nat):Int).toNat]?=some ao[j].enc:=by rw[aaa,fN,aab bp];rfl
      generalize ao[j]=q at eZ dw aF;obtain⟨cG,n',dq,bR,a',b',cH,dE,c',cE⟩:=q;conv=>whnf
      refine⟨_,dw,by omega,rfl,?_⟩;conv=>whnf
      refine⟨_,eZ _,?_⟩;conv=>whnf
      refine ae (fun g3=>?_) (fun g3=>?_)
      ·conv=>whnf
       exact⟨m-1,by omega,j+1,true,by omega,rfl,rfl,rfl,aP j (by omega),rfl,by rw[aF,g3];rfl⟩
      ·conv=>whnf
       exact⟨m-1,by omega,j+1,false,by omega,rfl,rfl,rfl,aP j (by omega),rfl,by rw[aF,g3];rfl⟩
     ·have eb:ok=false:=g2;subst eb;conv=>whnf
      exact bw (by rw[aF];rfl)
    ·have bp:j=ao.length:=by have: ¬j<(aA.dv ao).length:=by simpa using g1
                             omega
     subst bp;rw[aal]at aF;conv=>whnf
     exact bw (by rw[aF];simp)
  ·iterate 16
    all_goals(try(conv=>whnf))
    all_goals(first|(refine bm Gf ?_)|(refine bm h1 ?_)|(refine bm h2 ?_)|(refine bm h3 ?_)|(refine bm h4 ?_)|(refine bm h7 ?_)|(refine ae (fun hb=>?_) (fun hb=>?_))|(refine⟨_,eh _,?_⟩)|(refine⟨_,jM _,?_⟩)|(refine⟨_,qI _,?_⟩)|(refine⟨_,qc _,?_⟩)|(refine⟨_,pX _,?_⟩)|(refine⟨_,pH _ _,?_⟩)|skip)
   all_goals(first
    |exact bw (by clear ih kN eh jM qI qc pX pH hw gE gu;simp only[form,aA.au,aA.ao];rw[kD]at*;simp_all;done)
    |skip)
   all_goals
    refine eD (fun m st=>∃(j:Nat)(ok:Bool),j+m=ao.length/\st.tm 1=i64 ((d+1:Nat):Int)/\st.tm 2= .ptr 0 0 0/\st.tm 5= .bool ok/\st.tm 6=i64 (j:Nat)/\st.hp=[.box (aA.mk 5 n aD cells a b aq agg c ao).enc]/\(own (aA.mk 5 n aD cells a b aq agg c ao)&&ao.all (form d))=(ok&&(ao.drop j).all (form d))) (fun m st hI=>?_) ao.length _ ⟨0,_,by simp,rfl,rfl,rfl,rfl,rfl,by clear ih kN eh jM qI qc pX pH hw gE gu kD sc lf gS Gf;first|(simp_all[own];done)|(simp_all[own];intros;omega)⟩
    have oQ:form (d+1) (aA.mk 5 n aD cells a b aq agg c ao)=(own (aA.mk 5 n aD cells a b aq agg c ao)&&ao.all (form d)):=by
     clear ih kN eh jM qI qc pX pH hw gE gu hI;simp only[form,aA.au,aA.ao];rw[kD]at*;simp_all
    obtain⟨j,ok,hj,e1,e2,e5,e6,hh,aF⟩:=hI;rw[oQ];obtain⟨tm,hq⟩:=st;simp only at e1 e2 e5 e6 hh;subst hh;rw[show tm=fX (fX (fX (fX tm 1 (i64 ((d+1:Nat):Int))) 2 (.ptr 0 0 0)) 5 (.bool ok)) 6 (i64 (j:Nat)) by rw[aR e1,aR e2,aR e5,aR e6]];clear e1 e2 e5 e6;conv=>whnf
    refine ae (fun g1=>?_) (fun g1=>?_)
    ·have bp:j<ao.length:=by have:j<(aA.dv ao).length:=by simpa using g1
                             omega
     conv=>whnf
     refine ae (fun g2=>?_) (fun g2=>?_)
     ·have eb:ok=true:=g2;subst eb;rw[aaf bp,abi]at aF;have eZ:=kN ao[j] (aac bp);have dw:(aA.dv ao)[((j:Nat):Int).toNat]?=some ao[j].enc:=by rw[aaa,fN,aab bp];rfl
      generalize ao[j]=q at eZ dw aF;obtain⟨cG,n',dq,bR,a',b',cH,dE,c',cE⟩:=q;conv=>whnf
      refine⟨_,dw,by omega,rfl,?_⟩;conv=>whnf
      refine⟨_,eZ _,?_⟩;conv=>whnf
      refine ae (fun g3=>?_) (fun g3=>?_)
      ·conv=>whnf
       exact⟨m-1,by omega,j+1,true,by omega,rfl,rfl,rfl,aP j (by omega),rfl,by rw[aF,g3];rfl⟩
      ·conv=>whnf
       exact⟨m-1,by omega,j+1,false,by omega,rfl,rfl,rfl,aP j (by omega),rfl,by rw[aF,g3];rfl⟩
     ·have eb:ok=false:=g2;subst eb;conv=>whnf
      exact bw (by rw[aF];rfl)
    ·have bp:j=ao.length:=by have: ¬j<(aA.dv ao).length:=by simpa using g1
                             omega
     subst bp;rw[aal]at aF;conv=>whnf
     exact bw (by rw[aF];simp)
  ·iterate 16
    all_goals(try(conv=>whnf))
    all_goals(first|(refine bm Gf ?_)|(refine bm h1 ?_)|(refine bm h2 ?_)|(refine bm h3 ?_)|(refine bm h4 ?_)|(refine bm h7 ?_)|(refine ae (fun hb=>?_) (fun hb=>?_))|(refine⟨_,eh _,?_⟩)|(refine⟨_,jM _,?_⟩)|(refine⟨_,qI _,?_⟩)|(refine⟨_,qc _,?_⟩)|(refine⟨_,pX _,?_⟩)|(refine⟨_,pH _ _,?_⟩)|skip)
   all_goals(first
    |exact bw (by clear ih kN eh jM qI qc pX pH hw gE gu;simp only[form,aA.au,aA.ao];rw[kD]at*;simp_all;done)
    |skip)
   all_goals
    refine eD (fun m st=>∃(j:Nat)(ok:Bool),j+m=ao.length/\st.tm 1=i64 ((d+1:Nat):Int)/\st.tm 2= .ptr 0 0 0/\st.tm 5= .bool ok/\st.tm 6=i64 (j:Nat)/\st.hp=[.box (aA.mk 6 n aD cells a b aq agg c ao).enc]/\(own (aA.mk 6 n aD cells a b aq agg c ao)&&ao.all (form d))=(ok&&(ao.drop j).all (form d))) (fun m st hI=>?_) ao.length _ ⟨0,_,by simp,rfl,rfl,rfl,rfl,rfl,by clear ih kN eh jM qI qc pX pH hw gE gu kD sc lf gS Gf;first|(simp_all[own];done)|(simp_all[own];intros;omega)⟩
    have oQ:form (d+1) (aA.mk 6 n aD cells a b aq agg c ao)=(own (aA.mk 6 n aD cells a b aq agg c ao)&&ao.all (form d)):=by
     clear ih kN eh jM qI qc pX pH hw gE gu hI;simp only[form,aA.au,aA.ao];rw[kD]at*;simp_all
    obtain⟨j,ok,hj,e1,e2,e5,e6,hh,aF⟩:=hI;rw[oQ];obtain⟨tm,hq⟩:=st;simp only at e1 e2 e5 e6 hh;subst hh;rw[show tm=fX (fX (fX (fX tm 1 (i64 ((d+1:Nat):Int))) 2 (.ptr 0 0 0)) 5 (.bool ok)) 6 (i64 (j:Nat)) by rw[aR e1,aR e2,aR e5,aR e6]];clear e1 e2 e5 e6;conv=>whnf
    refine ae (fun g1=>?_) (fun g1=>?_)
    ·have bp:j<ao.length:=by have:j<(aA.dv ao).length:=by simpa using g1
                             omega
     conv=>whnf
     refine ae (fun g2=>?_) (fun g2=>?_)
     ·have eb:ok=true:=g2;subst eb;rw[aaf bp,abi]at aF;have eZ:=kN ao[j] (aac bp);have dw:(aA.dv ao)[((j:Nat):Int).toNat]?=some ao[j].enc:=by rw[aaa,fN,aab bp];rfl
      generalize ao[j]=q at eZ dw aF;obtain⟨cG,n',dq,bR,a',b',cH,dE,c',cE⟩:=q;conv=>whnf
      refine⟨_,dw,by omega,rfl,?_⟩;conv=>whnf
      refine⟨_,eZ _,?_⟩;conv=>whnf
      refine ae (fun g3=>?_) (fun g3=>?_)
      ·conv=>whnf
       exact⟨m-1,by omega,j+1,true,by omega,rfl,rfl,rfl,aP j (by omega),rfl,by rw[aF,g3];rfl⟩
      ·conv=>whnf
       exact⟨m-1,by omega,j+1,false,by omega,rfl,rfl,rfl,aP j (by omega),rfl,by rw[aF,g3];rfl⟩
     ·have eb:ok=false:=g2;subst eb;conv=>whnf
      exact bw (by rw[aF];rfl)
    ·have bp:j=ao.length:=by have: ¬j<(aA.dv ao).length:=by simpa using g1
                             omega
     subst bp;rw[aal]at aF;conv=>whnf
     exact bw (by rw[aF];simp)
  ·iterate 16
    all_goals(try(conv=>whnf))
    all_goals(first|(refine bm Gf ?_)|(refine bm h1 ?_)|(refine bm h2 ?_)|(refine bm h3 ?_)|(refine bm h4 ?_)|(refine bm h7 ?_)|(refine ae (fun hb=>?_) (fun hb=>?_))|(refine⟨_,eh _,?_⟩)|(refine⟨_,jM _,?_⟩)|(refine⟨_,qI _,?_⟩)|(refine⟨_,qc _,?_⟩)|(refine⟨_,pX _,?_⟩)|(refine⟨_,pH _ _,?_⟩)|skip)
   all_goals(first
    |exact bw (by clear ih kN eh jM qI qc pX pH hw gE gu;simp only[form,aA.au,aA.ao];rw[kD]at*;simp_all;done)
    |skip)
   all_goals
    refine eD (fun m st=>∃(j:Nat)(ok:Bool),j+m=ao.length/\st.tm 1=i64 ((d+1:Nat):Int)/\st.tm 2= .ptr 0 0 0/\st.tm 5= .bool ok/\st.tm 6=i64 (j:Nat)/\st.hp=[.box (aA.mk 7 n aD cells a b aq agg c ao).enc]/\(own (aA.mk 7 n aD cells a b aq agg c ao)&&ao.all (form d))=(ok&&(ao.drop j).all (form d))) (fun m st hI=>?_) ao.length _ ⟨0,_,by simp,rfl,rfl,rfl,rfl,rfl,by clear ih kN eh jM qI qc pX pH hw gE gu kD sc lf gS Gf;first|(simp_all[own];done)|(simp_all[own];intros;omega)⟩
    have oQ:form (d+1) (aA.mk 7 n aD cells a b aq agg c ao)=(own (aA.mk 7 n aD cells a b aq agg c ao)&&ao.all (form d)):=by
     clear ih kN eh jM qI qc pX pH hw gE gu hI;simp only[form,aA.au,aA.ao];rw[kD]at*;simp_all
    obtain⟨j,ok,hj,e1,e2,e5,e6,hh,aF⟩:=hI;rw[oQ];obtain⟨tm,hq⟩:=st;simp only at e1 e2 e5 e6 hh;subst hh;rw[show tm=fX (fX (fX (fX tm 1 (i64 ((d+1:Nat):Int))) 2 (.ptr 0 0 0)) 5 (.bool ok)) 6 (i64 (j:Nat)) by rw[aR e1,aR e2,aR e5,aR e6]];clear e1 e2 e5 e6;conv=>whnf
    refine ae (fun g1=>?_) (fun g1=>?_)
    ·have bp:j<ao.length:=by have:j<(aA.dv ao).length:=by simpa using g1
                             omega
     conv=>whnf
     refine ae (fun g2=>?_) (fun g2=>?_)
     ·have eb:ok=true:=g2;subst eb;rw[aaf bp,abi]at aF;have eZ:=kN ao[j] (aac bp);have dw:(aA.dv ao)[((j:Nat):Int).toNat]?=some ao[j].enc:=by rw[aaa,fN,aab bp];rfl
      generalize ao[j]=q at eZ dw aF;obtain⟨cG,n',dq,bR,a',b',cH,dE,c',cE⟩:=q;conv=>whnf
      refine⟨_,dw,by omega,rfl,?_⟩;conv=>whnf
      refine⟨_,eZ _,?_⟩;conv=>whnf
      refine ae (fun g3=>?_) (fun g3=>?_)
      ·conv=>whnf
       exact⟨m-1,by omega,j+1,true,by omega,rfl,rfl,rfl,aP j (by omega),rfl,by rw[aF,g3];rfl⟩
      ·conv=>whnf
       exact⟨m-1,by omega,j+1,false,by omega,rfl,rfl,rfl,aP j (by omega),rfl,by rw[aF,g3];rfl⟩
     ·have eb:ok=false:=g2;subst eb;conv=>whnf
      exact bw (by rw[aF];rfl)
    ·have bp:j=ao.length:=by have: ¬j<(aA.dv ao).length:=by simpa using g1
                             omega
     subst bp;rw[aal]at aF;conv=>whnf
     exact bw (by rw[aF];simp)
  ·iterate 16
    all_goals(try(conv=>whnf))
    all_goals(first|(refine bm Gf ?_)|(refine bm h1 ?_)|(refine bm h2 ?_)|(refine bm h3 ?_)|(refine bm h4 ?_)|(refine bm h7 ?_)|(refine ae (fun hb=>?_) (fun hb=>?_))|(refine⟨_,eh _,?_⟩)|(refine⟨_,jM _,?_⟩)|(refine⟨_,qI _,?_⟩)|(refine⟨_,qc _,?_⟩)|(refine⟨_,pX _,?_⟩)|(refine⟨_,pH _ _,?_⟩)|skip)
   all_goals(first
    |exact bw (by clear ih kN eh jM qI qc pX pH hw gE gu;simp only[form,aA.au,aA.ao];rw[kD]at*;simp_all;done)
    |skip)
   all_goals
    refine eD (fun m st=>∃(j:Nat)(ok:Bool),j+m=ao.length/\st.tm 1=i64 ((d+1:Nat):Int)/\st.tm 2= .ptr 0 0 0/\st.tm 5= .bool ok/\st.tm 6=i64 (j:Nat)/\st.hp=[.box (aA.mk au n aD cells a b aq agg c ao).enc]/\(own (aA.mk au n aD cells a b aq agg c ao)&&ao.all (form d))=(ok&&(ao.drop j).all (form d))) (fun m st hI=>?_) ao.length _ ⟨0,_,by simp,rfl,rfl,rfl,rfl,rfl,by clear ih kN eh jM qI qc pX pH hw gE gu kD sc lf gS Gf;first|(simp_all[own];done)|(simp_all[own];intros;omega)⟩
    have oQ:form (d+1) (aA.mk au n aD cells a b aq agg c ao)=(own (aA.mk au n aD cells a b aq agg c ao)&&ao.all (form d)):=by
     clear ih kN eh jM qI qc pX pH hw gE gu hI;simp only[form,aA.au,aA.ao];rw[kD]at*;simp_all
    obtain⟨j,ok,hj,e1,e2,e5,e6,hh,aF⟩:=hI;rw[oQ];obtain⟨tm,hq⟩:=st;simp only at e1 e2 e5 e6 hh;subst hh;rw[show tm=fX (fX (fX (fX tm 1 (i64 ((d+1:Nat):Int))) 2 (.ptr 0 0 0)) 5 (.bool ok)) 6 (i64 (j:Nat)) by rw[aR e1,aR e2,aR e5,aR e6]];clear e1 e2 e5 e6;conv=>whnf
    refine ae (fun g1=>?_) (fun g1=>?_)
    ·have bp:j<ao.length:=by have:j<(aA.dv ao).length:=by simpa using g1
                             omega
     conv=>whnf
     refine ae (fun g2=>?_) (fun g2=>?_)
     ·have eb:ok=true:=g2;subst eb;rw[aaf bp,abi]at aF;have eZ:=kN ao[j] (aac bp);have dw:(aA.dv ao)[((j:Nat):Int).toNat]?=some ao[j].enc:=by rw[aaa,fN,aab bp];rfl
      generalize ao[j]=q at eZ dw aF;obtain⟨cG,n',dq,bR,a',b',cH,dE,c',cE⟩:=q;conv=>whnf
      refine⟨_,dw,by omega,rfl,?_⟩;conv=>whnf
      refine⟨_,eZ _,?_⟩;conv=>whnf
      refine ae (fun g3=>?_) (fun g3=>?_)
      ·conv=>whnf
       exact⟨m-1,by omega,j+1,true,by omega,rfl,rfl,rfl,aP j (by omega),rfl,by rw[aF,g3];rfl⟩
      ·conv=>whnf
       exact⟨m-1,by omega,j+1,false,by omega,rfl,rfl,rfl,aP j (by omega),rfl,by rw[aF,g3];rfl⟩
     ·have eb:ok=false:=g2;subst eb;conv=>whnf
      exact bw (by rw[aF];rfl)
    ·have bp:j=ao.length:=by have: ¬j<(aA.dv ao).length:=by simpa using g1
                             omega
     subst bp;rw[aal]at aF;conv=>whnf
     exact bw (by rw[aF];simp)
end Go.Proofs.YtfepbikckfehlaaGreat
set_option maxHeartbeats 4000000
namespace Go.Proofs.YtfepbikckfehlaaGreat
open Go Go.Am
variable{pr:bW}(hp:cF pr)
set_option maxRecDepth 100000
def fit(p:aA):Bool:=form 6 p&&decide (many 6 p<=10)
theorem Tx(hp:cF pr)(p:aA)(gu:p.small):dK pr 97 [p.enc] (.bool (fit p)):=by
 have h1:=Qy hp 6 p gu (by omega);have h2:=Hr hp 6 p gu (by omega);obtain⟨au,n,aD,cells,a,b,aq,agg,c,ao⟩:=p;refine cX hp rfl rfl ?_
 iterate 5
  all_goals(try(conv=>whnf))
  all_goals(first|(refine ae (fun hb=>?_) (fun hb=>?_))|(refine⟨_,h1 _,?_⟩)|(refine⟨_,h2 _,?_⟩)|skip)
 all_goals exact bw (by clear h1 h2 gu;first|(simp_all[fit];done)|(simp_all[fit];omega))
mutual
def once:aA->Bool
 | .mk au _ _ _ _ _ _ _ _ ao=>
  if au=6∨au=7 then true
  else if au=2 then((Mu ao)[0]?).getD false
  else if au=4 then((Mu ao)[0]?).getD false&&((Mu ao)[1]?).getD false
  else false
def Mu:List aA->List Bool
 | []=>[]
 |p::ps=>once p::Mu ps
end
theorem NU{d:Nat}{p:aA}(h:form (d+1) p=true):cU p.au=p.ao.length/\clean p=true/\own p=true/\ ∀q∈p.ao,form d q=true:=by
 simp only[form,xz,beq_iff_eq,aaj]at h;exact⟨h.1,h.2.1,h.2.2.1,h.2.2.2⟩
end Go.Proofs.YtfepbikckfehlaaGreat
namespace Go.Am
open Go
def EM(P:Program)(M:FuncId->Mode)(pm:Nat->Nat->Nat->Option (List Nat))(skip:Nat->Bool):Nat->List Func->Bool
 |_,[]=>true
 |n,fn::r=>(skip n||(match fn.body with
  |some c=>codeOk P M pm fn.ntmps c
  |none=>true))&&EM P M pm skip (n+1) r
theorem HI{P:Program}{M:FuncId->Mode}{pm:Nat->Nat->Nat->Option (List Nat)}{skip:Nat->Bool}: ∀(l:List Func)(n:Nat),EM P M pm skip n l=true-> ∀(i:Nat)(fn:Func)(c:Code),l[i]?=some fn->fn.body=some c->skip (n+i)=false->codeOk P M pm fn.ntmps c=true:=by
 intro l
 induction l with
 |nil=>intro n _ i fn c h;simp at h
 |cons g r ih=>
  intro n h i fn c hi hb hs;simp only[EM,xz]at h
  cases i with
  |zero=>
   simp at hi;subst hi;have:=h.1;rw[Nat.add_zero]at hs;rw[hb,hs,Bool.false_or]at this
   exact this
  |succ i=>exact ih (n+1) h.2 i fn c (by simpa using hi) hb (by rw[show n+1+i=n+(i+1) by omega];exact hs)
end Go.Am
namespace Go.Proofs.YtfepbikckfehlaaGreat
open Go Go.Am
set_option maxRecDepth 100000 in
theorem Yx:EM Tryz.prog gI pms bad 0 Tryz.prog.funcs.toList=true:=by kernel_rfl
set_option maxRecDepth 100000 in
theorem EN{pr:bW}(ig: ∀f,bad f=true->pr f≠none)(UQ: ∀f p args h r,pr f=some p->p args h=some r-> ∀(E:Env)(w:World)(vs:Array Value),ia Tryz.prog f=true->eG E h w->Full E h->ug gV E.S w->hH E w args vs->Calls Tryz.prog f vs w (vX E h w r)):wj (dZ pr) where
 mixed:=by kernel_rfl
 code:=fun f fn c hp hf hb=>HI _ 0 Yx f fn c (by simpa[dZ]using hf) hb (by rw[aaK];cases hx:bad f with|false=>rfl|true=>exact absurd hp (ig f hx))
 Qf:=UQ
noncomputable def cf:eP:=dZ Sq
theorem Mv(f:FuncId)(h:bad f=true):Sq f≠none:=by unfold Sq;rw[h];exact fun e=>by cases e
theorem HJ{f:FuncId}{p:List af->aG->Option ef}(h:Sq f=some p)(args:List af)(hp:aG):p args hp=none:=by
 unfold Sq at h
 cases hb:bad f with
 |false=>rw[hb]at h;cases h
 |true=>rw[hb]at h;cases h;rfl
theorem Dy{f:FuncId}(h:plain f=true):Sq f=none:=by
 unfold plain at h;simp only[xz,Bool.not_eq_true']at h;unfold Sq;rw[h.2];rfl
theorem ok0:cF Sq:=⟨fun _ h=>Dy h⟩
set_option maxRecDepth 100000 in
theorem Qz:wj cf:=EN Mv fun _ _ _ _ _ h h2=>by rw[HJ h]at h2;cases h2
end Go.Proofs.YtfepbikckfehlaaGreat

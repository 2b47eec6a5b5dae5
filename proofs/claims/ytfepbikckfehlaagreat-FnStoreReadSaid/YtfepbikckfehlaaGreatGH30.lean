/- The program's SlimOnce; the law's own functions. -/
import Derived.Test.YtfepbikckfehlaaGreatGH28
import Derived.Test.YtfepbikckfehlaaGreatGH29
import Derived.Test.YtfepbikckfehlaaGreatGH21
set_option linter.unusedVariables false
set_option linter.unusedSimpArgs false
set_option maxHeartbeats 4000000
namespace Go.Proofs.YtfepbikckfehlaaGreat
open Go Go.Am
variable{pr:bL}(hp:bV pr)
set_option maxRecDepth 100000
def own:ax->Bool
 | .mk aw n aA cells a b ao agg c _=>
  if aw=1 then decide (0<=n)&&decide (n<3)
  else if aw=2 then jG aA 6
  else if aw=3 then ja cells 6
  else if aw=4 then col a 6&&col b 6
  else if aw=7 then dY ao 6&&(decide (0<=agg)&&(decide (agg<=3)&&col c 6))
  else true
def form:Nat->ax->Bool
 |0,_=>false
 |d+1,p=>(bX p.aw==p.al.length)&&(clean p&&(own p&&p.al.all (form d)))
theorem wI(d:Nat)(h:d<4611686018427387904):af.int .i64 (IntKind.i64.wrap (((d+1:Nat):Int)-1))=i64 (d:Nat):=by
 have:IntKind.i64.wrap (((d+1:Nat):Int)-1)=(d:Nat):=by rw[aY];omega
 rw[this];rfl
set_option maxHeartbeats 4000000 in
theorem PS(hp:bV pr): ∀(d:Nat)(p:ax),p.small->d<=6->dm pr 126 [p.enc,i64 d] (.bool (form d p)):=by
 intro d
 induction d with
 |zero=>
  intro p fm _;obtain⟨aw,n,aA,cells,a,b,ao,agg,c,al⟩:=p;refine bY hp rfl rfl ?_;conv=>whnf
  exact bo rfl
 |succ d ih=>
  intro p fm hd;obtain⟨aw,n,aA,cells,a,b,ao,agg,c,al⟩:=p;obtain⟨qM,jK,fL,fB⟩:=dK fm;have Eb:decide (((d+1:Nat):Int)<1)=false:=by simp;omega
  have hw:=wI d (by omega);have jt:=fun(q:ax)(hq:q∈al)=>hw▸ih q (fB q hq) (by omega);have ji:=dM al;refine bY hp rfl rfl ?_;have dA:=kK hp aw;have iO:=jd hp (.mk aw n aA cells a b ao agg c al);have pF:=mJ hp aA 6;have ov:=pt hp cells 6 qM;have oa:=lM hp ao 6 jK;have nO:=fun n=>jz hp n 6;rcases eR aw with rfl|rfl|rfl|rfl|rfl|rfl|rfl|⟨h1,h2,h3,h4,h5,h6,h7⟩
  ·iterate 16
    all_goals(try(conv=>whnf))
    all_goals(first|(refine bf Eb ?_)|(refine bf h1 ?_)|(refine bf h2 ?_)|(refine bf h3 ?_)|(refine bf h4 ?_)|(refine bf h7 ?_)|(refine ae (fun hb=>?_) (fun hb=>?_))|(refine⟨_,dA _,?_⟩)|(refine⟨_,iO _,?_⟩)|(refine⟨_,pF _,?_⟩)|(refine⟨_,ov _,?_⟩)|(refine⟨_,oa _,?_⟩)|(refine⟨_,nO _ _,?_⟩)|skip)
   all_goals(first
    |exact bo (by clear ih jt dA iO pF ov oa nO hw fB fm;simp only[form,ax.aw,ax.al];rw[ji]at*;simp_all;done)
    |skip)
   all_goals
    refine dJ (fun m st=>∃(j:Nat)(ok:Bool),j+m=al.length/\st.tm 1=i64 ((d+1:Nat):Int)/\st.tm 2= .ptr 0 0 0/\st.tm 5= .bool ok/\st.tm 6=i64 (j:Nat)/\st.hp=[.box (ax.mk 1 n aA cells a b ao agg c al).enc]/\(own (ax.mk 1 n aA cells a b ao agg c al)&&al.all (form d))=(ok&&(al.drop j).all (form d))) (fun m st hI=>?_) al.length _ ⟨0,_,by simp,rfl,rfl,rfl,rfl,rfl,by clear ih jt dA iO pF ov oa nO hw fB fm ji qM jK fL Eb;first|(simp_all[own];done)|(simp_all[own];intros;omega)⟩
    have nB:form (d+1) (ax.mk 1 n aA cells a b ao agg c al)=(own (ax.mk 1 n aA cells a b ao agg c al)&&al.all (form d)):=by
     clear ih jt dA iO pF ov oa nO hw fB fm hI;simp only[form,ax.aw,ax.al];rw[ji]at*;simp_all
    obtain⟨j,ok,hj,e1,e2,e5,e6,hh,aD⟩:=hI;rw[nB];obtain⟨tm,hq⟩:=st;simp only at e1 e2 e5 e6 hh;subst hh;rw[show tm=eU (eU (eU (eU tm 1 (i64 ((d+1:Nat):Int))) 2 (.ptr 0 0 0)) 5 (.bool ok)) 6 (i64 (j:Nat)) by rw[aP e1,aP e2,aP e5,aP e6]];clear e1 e2 e5 e6;conv=>whnf
    refine ae (fun g1=>?_) (fun g1=>?_)
    ·have bq:j<al.length:=by have:j<(ax.cz al).length:=by simpa using g1
                             omega
     conv=>whnf
     refine ae (fun g2=>?_) (fun g2=>?_)
     ·have dt:ok=true:=g2;subst dt;rw[ar bq,List.all_cons]at aD;have eI:=jt al[j] (ay bq);have cx:(ax.cz al)[((j:Nat):Int).toNat]?=some al[j].enc:=by rw[aq,eK,au bq];rfl
      generalize al[j]=q at eI cx aD;obtain⟨cd,n',cr,bK,a',b',cm,cX,c',bU⟩:=q;conv=>whnf
      refine⟨_,cx,by omega,rfl,?_⟩;conv=>whnf
      refine⟨_,eI _,?_⟩;conv=>whnf
      refine ae (fun g3=>?_) (fun g3=>?_)
      ·conv=>whnf
       exact⟨m-1,by omega,j+1,true,by omega,rfl,rfl,rfl,aQ j (by omega),rfl,by rw[aD,g3];rfl⟩
      ·conv=>whnf
       exact⟨m-1,by omega,j+1,false,by omega,rfl,rfl,rfl,aQ j (by omega),rfl,by rw[aD,g3];rfl⟩
     ·have dt:ok=false:=g2;subst dt;conv=>whnf
      exact bo (by rw[aD];rfl)
    ·have bq:j=al.length:=by have: ¬j<(ax.cz al).length:=by simpa using g1
                             omega
     subst bq;rw[aL]at aD;conv=>whnf
     exact bo (by rw[aD];simp)
  ·iterate 16
    all_goals(try(conv=>whnf))
    all_goals(first|(refine bf Eb ?_)|(refine bf h1 ?_)|(refine bf h2 ?_)|(refine bf h3 ?_)|(refine bf h4 ?_)|(refine bf h7 ?_)|(refine ae (fun hb=>?_) (fun hb=>?_))|(refine⟨_,dA _,?_⟩)|(refine⟨_,iO _,?_⟩)|(refine⟨_,pF _,?_⟩)|(refine⟨_,ov _,?_⟩)|(refine⟨_,oa _,?_⟩)|(refine⟨_,nO _ _,?_⟩)|skip)
   all_goals(first
    |exact bo (by clear ih jt dA iO pF ov oa nO hw fB fm;simp only[form,ax.aw,ax.al];rw[ji]at*;simp_all;done)
    |skip)
   all_goals
    refine dJ (fun m st=>∃(j:Nat)(ok:Bool),j+m=al.length/\st.tm 1=i64 ((d+1:Nat):Int)/\st.tm 2= .ptr 0 0 0/\st.tm 5= .bool ok/\st.tm 6=i64 (j:Nat)/\st.hp=[.box (ax.mk 2 n aA cells a b ao agg c al).enc]/\(own (ax.mk 2 n aA cells a b ao agg c al)&&al.all (form d))=(ok&&(al.drop j).all (form d))) (fun m st hI=>?_) al.length _ ⟨0,_,by simp,rfl,rfl,rfl,rfl,rfl,by clear ih jt dA iO pF ov oa nO hw fB fm ji qM jK fL Eb;first|(simp_all[own];done)|(simp_all[own];intros;omega)⟩
    have nB:form (d+1) (ax.mk 2 n aA cells a b ao agg c al)=(own (ax.mk 2 n aA cells a b ao agg c al)&&al.all (form d)):=by
     clear ih jt dA iO pF ov oa nO hw fB fm hI;simp only[form,ax.aw,ax.al];rw[ji]at*;simp_all
    obtain⟨j,ok,hj,e1,e2,e5,e6,hh,aD⟩:=hI;rw[nB];obtain⟨tm,hq⟩:=st;simp only at e1 e2 e5 e6 hh;subst hh;rw[show tm=eU (eU (eU (eU tm 1 (i64 ((d+1:Nat):Int))) 2 (.ptr 0 0 0)) 5 (.bool ok)) 6 (i64 (j:Nat)) by rw[aP e1,aP e2,aP e5,aP e6]];clear e1 e2 e5 e6;conv=>whnf
    refine ae (fun g1=>?_) (fun g1=>?_)
    ·have bq:j<al.length:=by have:j<(ax.cz al).length:=by simpa using g1
                             omega
     conv=>whnf
     refine ae (fun g2=>?_) (fun g2=>?_)
     ·have dt:ok=true:=g2;subst dt;rw[ar bq,List.all_cons]at aD;have eI:=jt al[j] (ay bq);have cx:(ax.cz al)[((j:Nat):Int).toNat]?=some al[j].enc:=by rw[aq,eK,au bq];rfl
      generalize al[j]=q at eI cx aD;obtain⟨cd,n',cr,bK,a',b',cm,cX,c',bU⟩:=q;conv=>whnf
      refine⟨_,cx,by omega,rfl,?_⟩;conv=>whnf
      refine⟨_,eI _,?_⟩;conv=>whnf
      refine ae (fun g3=>?_) (fun g3=>?_)
      ·conv=>whnf
       exact⟨m-1,by omega,j+1,true,by omega,rfl,rfl,rfl,aQ j (by omega),rfl,by rw[aD,g3];rfl⟩
      ·conv=>whnf
       exact⟨m-1,by omega,j+1,false,by omega,rfl,rfl,rfl,aQ j (by omega),rfl,by rw[aD,g3];rfl⟩
     ·have dt:ok=false:=g2;subst dt;conv=>whnf
      exact bo (by rw[aD];rfl)
    ·have bq:j=al.length:=by have: ¬j<(ax.cz al).length:=by simpa using g1
                             omega
     subst bq;rw[aL]at aD;conv=>whnf
     exact bo (by rw[aD];simp)
  ·iterate 16
    all_goals(try(conv=>whnf))
    all_goals(first|(refine bf Eb ?_)|(refine bf h1 ?_)|(refine bf h2 ?_)|(refine bf h3 ?_)|(refine bf h4 ?_)|(refine bf h7 ?_)|(refine ae (fun hb=>?_) (fun hb=>?_))|(refine⟨_,dA _,?_⟩)|(refine⟨_,iO _,?_⟩)|(refine⟨_,pF _,?_⟩)|(refine⟨_,ov _,?_⟩)|(refine⟨_,oa _,?_⟩)|(refine⟨_,nO _ _,?_⟩)|skip)
   all_goals(first
    |exact bo (by clear ih jt dA iO pF ov oa nO hw fB fm;simp only[form,ax.aw,ax.al];rw[ji]at*;simp_all;done)
    |skip)
   all_goals
    refine dJ (fun m st=>∃(j:Nat)(ok:Bool),j+m=al.length/\st.tm 1=i64 ((d+1:Nat):Int)/\st.tm 2= .ptr 0 0 0/\st.tm 5= .bool ok/\st.tm 6=i64 (j:Nat)/\st.hp=[.box (ax.mk 3 n aA cells a b ao agg c al).enc]/\(own (ax.mk 3 n aA cells a b ao agg c al)&&al.all (form d))=(ok&&(al.drop j).all (form d))) (fun m st hI=>?_) al.length _ ⟨0,_,by simp,rfl,rfl,rfl,rfl,rfl,by clear ih jt dA iO pF ov oa nO hw fB fm ji qM jK fL Eb;first|(simp_all[own];done)|(simp_all[own];intros;omega)⟩
    have nB:form (d+1) (ax.mk 3 n aA cells a b ao agg c al)=(own (ax.mk 3 n aA cells a b ao agg c al)&&al.all (form d)):=by
     clear ih jt dA iO pF ov oa nO hw fB fm hI;simp only[form,ax.aw,ax.al];rw[ji]at*;simp_all
    obtain⟨j,ok,hj,e1,e2,e5,e6,hh,aD⟩:=hI;rw[nB];obtain⟨tm,hq⟩:=st;simp only at e1 e2 e5 e6 hh;subst hh;rw[show tm=eU (eU (eU (eU tm 1 (i64 ((d+1:Nat):Int))) 2 (.ptr 0 0 0)) 5 (.bool ok)) 6 (i64 (j:Nat)) by rw[aP e1,aP e2,aP e5,aP e6]];clear e1 e2 e5 e6;conv=>whnf
    refine ae (fun g1=>?_) (fun g1=>?_)
    ·have bq:j<al.length:=by have:j<(ax.cz al).length:=by simpa using g1
                             omega
     conv=>whnf
     refine ae (fun g2=>?_) (fun g2=>?_)
     ·have dt:ok=true:=g2;subst dt;rw[ar bq,List.all_cons]at aD;have eI:=jt al[j] (ay bq);have cx:(ax.cz al)[((j:Nat):Int).toNat]?=some al[j].enc:=by rw[aq,eK,au bq];rfl
      generalize al[j]=q at eI cx aD;obtain⟨cd,n',cr,bK,a',b',cm,cX,c',bU⟩:=q;conv=>whnf
      refine⟨_,cx,by omega,rfl,?_⟩;conv=>whnf
      refine⟨_,eI _,?_⟩;conv=>whnf
      refine ae (fun g3=>?_) (fun g3=>?_)
      ·conv=>whnf
       exact⟨m-1,by omega,j+1,true,by omega,rfl,rfl,rfl,aQ j (by omega),rfl,by rw[aD,g3];rfl⟩
      ·conv=>whnf
       exact⟨m-1,by omega,j+1,false,by omega,rfl,rfl,rfl,aQ j (by omega),rfl,by rw[aD,g3];rfl⟩
     ·have dt:ok=false:=g2;subst dt;conv=>whnf
      exact bo (by rw[aD];rfl)
    ·have bq:j=al.length:=by have: ¬j<(ax.cz al).length:=by simpa using g1
                             omega
     subst bq;rw[aL]at aD;conv=>whnf
     exact bo (by rw[aD];simp)
  ·iterate 16
    all_goals(try(conv=>whnf))
    all_goals(first|(refine bf Eb ?_)|(refine bf h1 ?_)|(refine bf h2 ?_)|(refine bf h3 ?_)|(refine bf h4 ?_)|(refine bf h7 ?_)|(refine ae (fun hb=>?_) (fun hb=>?_))|(refine⟨_,dA _,?_⟩)|(refine⟨_,iO _,?_⟩)|(refine⟨_,pF _,?_⟩)|(refine⟨_,ov _,?_⟩)|(refine⟨_,oa _,?_⟩)|(refine⟨_,nO _ _,?_⟩)|skip)
   all_goals(first
    |exact bo (by clear ih jt dA iO pF ov oa nO hw fB fm;simp only[form,ax.aw,ax.al];rw[ji]at*;simp_all;done)
    |skip)
   all_goals
    refine dJ (fun m st=>∃(j:Nat)(ok:Bool),j+m=al.length/\st.tm 1=i64 ((d+1:Nat):Int)/\st.tm 2= .ptr 0 0 0/\st.tm 5= .bool ok/\st.tm 6=i64 (j:Nat)/\st.hp=[.box (ax.mk 4 n aA cells a b ao agg c al).enc]/\(own (ax.mk 4 n aA cells a b ao agg c al)&&al.all (form d))=(ok&&(al.drop j).all (form d))) (fun m st hI=>?_) al.length _ ⟨0,_,by simp,rfl,rfl,rfl,rfl,rfl,by clear ih jt dA iO pF ov oa nO hw fB fm ji qM jK fL Eb;first|(simp_all[own];done)|(simp_all[own];intros;omega)⟩
    have nB:form (d+1) (ax.mk 4 n aA cells a b ao agg c al)=(own (ax.mk 4 n aA cells a b ao agg c al)&&al.all (form d)):=by
     clear ih jt dA iO pF ov oa nO hw fB fm hI;simp only[form,ax.aw,ax.al];rw[ji]at*;simp_all
    obtain⟨j,ok,hj,e1,e2,e5,e6,hh,aD⟩:=hI;rw[nB];obtain⟨tm,hq⟩:=st;simp only at e1 e2 e5 e6 hh;subst hh;rw[show tm=eU (eU (eU (eU tm 1 (i64 ((d+1:Nat):Int))) 2 (.ptr 0 0 0)) 5 (.bool ok)) 6 (i64 (j:Nat)) by rw[aP e1,aP e2,aP e5,aP e6]];clear e1 e2 e5 e6;conv=>whnf
    refine ae (fun g1=>?_) (fun g1=>?_)
    ·have bq:j<al.length:=by have:j<(ax.cz al).length:=by simpa using g1
                             omega
     conv=>whnf
     refine ae (fun g2=>?_) (fun g2=>?_)
     ·have dt:ok=true:=g2;subst dt;rw[ar bq,List.all_cons]at aD;have eI:=jt al[j] (ay bq);have cx:(ax.cz al)[((j:Nat):Int).toNat]?=some al[j].enc:=by rw[aq,eK,au bq];rfl
      generalize al[j]=q at eI cx aD;obtain⟨cd,n',cr,bK,a',b',cm,cX,c',bU⟩:=q;conv=>whnf
      refine⟨_,cx,by omega,rfl,?_⟩;conv=>whnf
      refine⟨_,eI _,?_⟩;conv=>whnf
      refine ae (fun g3=>?_) (fun g3=>?_)
      ·conv=>whnf
       exact⟨m-1,by omega,j+1,true,by omega,rfl,rfl,rfl,aQ j (by omega),rfl,by rw[aD,g3];rfl⟩
      ·conv=>whnf
       exact⟨m-1,by omega,j+1,false,by omega,rfl,rfl,rfl,aQ j (by omega),rfl,by rw[aD,g3];rfl⟩
     ·have dt:ok=false:=g2;subst dt;conv=>whnf
      exact bo (by rw[aD];rfl)
    ·have bq:j=al.length:=by have: ¬j<(ax.cz al).length:=by simpa using g1
                             omega
     subst bq;rw[aL]at aD;conv=>whnf
     exact bo (by rw[aD];simp)
  ·iterate 16
    all_goals(try(conv=>whnf))
    all_goals(first|(refine bf Eb ?_)|(refine bf h1 ?_)|(refine bf h2 ?_)|(refine bf h3 ?_)|(refine bf h4 ?_)|(refine bf h7 ?_)|(refine ae (fun hb=>?_) (fun hb=>?_))|(refine⟨_,dA _,?_⟩)|(refine⟨_,iO _,?_⟩)|(refine⟨_,pF _,?_⟩)|(refine⟨_,ov _,?_⟩)|(refine⟨_,oa _,?_⟩)|(refine⟨_,nO _ _,?_⟩)|skip)
   all_goals(first
    |exact bo (by clear ih jt dA iO pF ov oa nO hw fB fm;simp only[form,ax.aw,ax.al];rw[ji]at*;simp_all;done)
    |skip)
   all_goals
    refine dJ (fun m st=>∃(j:Nat)(ok:Bool),j+m=al.length/\st.tm 1=i64 ((d+1:Nat):Int)/\st.tm 2= .ptr 0 0 0/\st.tm 5= .bool ok/\st.tm 6=i64 (j:Nat)/\st.hp=[.box (ax.mk 5 n aA cells a b ao agg c al).enc]/\(own (ax.mk 5 n aA cells a b ao agg c al)&&al.all (form d))=(ok&&(al.drop j).all (form d))) (fun m st hI=>?_) al.length _ ⟨0,_,by simp,rfl,rfl,rfl,rfl,rfl,by clear ih jt dA iO pF ov oa nO hw fB fm ji qM jK fL Eb;first|(simp_all[own];done)|(simp_all[own];intros;omega)⟩
    have nB:form (d+1) (ax.mk 5 n aA cells a b ao agg c al)=(own (ax.mk 5 n aA cells a b ao agg c al)&&al.all (form d)):=by
     clear ih jt dA iO pF ov oa nO hw fB fm hI;simp only[form,ax.aw,ax.al];rw[ji]at*;simp_all
    obtain⟨j,ok,hj,e1,e2,e5,e6,hh,aD⟩:=hI;rw[nB];obtain⟨tm,hq⟩:=st;simp only at e1 e2 e5 e6 hh;subst hh;rw[show tm=eU (eU (eU (eU tm 1 (i64 ((d+1:Nat):Int))) 2 (.ptr 0 0 0)) 5 (.bool ok)) 6 (i64 (j:Nat)) by rw[aP e1,aP e2,aP e5,aP e6]];clear e1 e2 e5 e6;conv=>whnf
    refine ae (fun g1=>?_) (fun g1=>?_)
    ·have bq:j<al.length:=by have:j<(ax.cz al).length:=by simpa using g1
                             omega
     conv=>whnf
     refine ae (fun g2=>?_) (fun g2=>?_)
     ·have dt:ok=true:=g2;subst dt;rw[ar bq,List.all_cons]at aD;have eI:=jt al[j] (ay bq);have cx:(ax.cz al)[((j:Nat):Int).toNat]?=some al[j].enc:=by rw[aq,eK,au bq];rfl
      generalize al[j]=q at eI cx aD;obtain⟨cd,n',cr,bK,a',b',cm,cX,c',bU⟩:=q;conv=>whnf
      refine⟨_,cx,by omega,rfl,?_⟩;conv=>whnf
      refine⟨_,eI _,?_⟩;conv=>whnf
      refine ae (fun g3=>?_) (fun g3=>?_)
      ·conv=>whnf
       exact⟨m-1,by omega,j+1,true,by omega,rfl,rfl,rfl,aQ j (by omega),rfl,by rw[aD,g3];rfl⟩
      ·conv=>whnf
       exact⟨m-1,by omega,j+1,false,by omega,rfl,rfl,rfl,aQ j (by omega),rfl,by rw[aD,g3];rfl⟩
     ·have dt:ok=false:=g2;subst dt;conv=>whnf
      exact bo (by rw[aD];rfl)
    ·have bq:j=al.length:=by have: ¬j<(ax.cz al).length:=by simpa using g1
                             omega
     subst bq;rw[aL]at aD;conv=>whnf
     exact bo (by rw[aD];simp)
  ·iterate 16
    all_goals(try(conv=>whnf))
    all_goals(first|(refine bf Eb ?_)|(refine bf h1 ?_)|(refine bf h2 ?_)|(refine bf h3 ?_)|(refine bf h4 ?_)|(refine bf h7 ?_)|(refine ae (fun hb=>?_) (fun hb=>?_))|(refine⟨_,dA _,?_⟩)|(refine⟨_,iO _,?_⟩)|(refine⟨_,pF _,?_⟩)|(refine⟨_,ov _,?_⟩)|(refine⟨_,oa _,?_⟩)|(refine⟨_,nO _ _,?_⟩)|skip)
   all_goals(first
    |exact bo (by clear ih jt dA iO pF ov oa nO hw fB fm;simp only[form,ax.aw,ax.al];rw[ji]at*;simp_all;done)
    |skip)
   all_goals
    refine dJ (fun m st=>∃(j:Nat)(ok:Bool),j+m=al.length/\st.tm 1=i64 ((d+1:Nat):Int)/\st.tm 2= .ptr 0 0 0/\st.tm 5= .bool ok/\st.tm 6=i64 (j:Nat)/\st.hp=[.box (ax.mk 6 n aA cells a b ao agg c al).enc]/\(own (ax.mk 6 n aA cells a b ao agg c al)&&al.all (form d))=(ok&&(al.drop j).all (form d))) (fun m st hI=>?_) al.length _ ⟨0,_,by simp,rfl,rfl,rfl,rfl,rfl,by clear ih jt dA iO pF ov oa nO hw fB fm ji qM jK fL Eb;first|(simp_all[own];done)|(simp_all[own];intros;omega)⟩
    have nB:form (d+1) (ax.mk 6 n aA cells a b ao agg c al)=(own (ax.mk 6 n aA cells a b ao agg c al)&&al.all (form d)):=by
     clear ih jt dA iO pF ov oa nO hw fB fm hI;simp only[form,ax.aw,ax.al];rw[ji]at*;simp_all
    obtain⟨j,ok,hj,e1,e2,e5,e6,hh,aD⟩:=hI;rw[nB];obtain⟨tm,hq⟩:=st;simp only at e1 e2 e5 e6 hh;subst hh;rw[show tm=eU (eU (eU (eU tm 1 (i64 ((d+1:Nat):Int))) 2 (.ptr 0 0 0)) 5 (.bool ok)) 6 (i64 (j:Nat)) by rw[aP e1,aP e2,aP e5,aP e6]];clear e1 e2 e5 e6;conv=>whnf
    refine ae (fun g1=>?_) (fun g1=>?_)
    ·have bq:j<al.length:=by have:j<(ax.cz al).length:=by simpa using g1
                             omega
     conv=>whnf
     refine ae (fun g2=>?_) (fun g2=>?_)
     ·have dt:ok=true:=g2;subst dt;rw[ar bq,List.all_cons]at aD;have eI:=jt al[j] (ay bq);have cx:(ax.cz al)[((j:Nat):Int).toNat]?=some al[j].enc:=by rw[aq,eK,au bq];rfl
      generalize al[j]=q at eI cx aD;obtain⟨cd,n',cr,bK,a',b',cm,cX,c',bU⟩:=q;conv=>whnf
      refine⟨_,cx,by omega,rfl,?_⟩;conv=>whnf
      refine⟨_,eI _,?_⟩;conv=>whnf
      refine ae (fun g3=>?_) (fun g3=>?_)
      ·conv=>whnf
       exact⟨m-1,by omega,j+1,true,by omega,rfl,rfl,rfl,aQ j (by omega),rfl,by rw[aD,g3];rfl⟩
      ·conv=>whnf
       exact⟨m-1,by omega,j+1,false,by omega,rfl,rfl,rfl,aQ j (by omega),rfl,by rw[aD,g3];rfl⟩
     ·have dt:ok=false:=g2;subst dt;conv=>whnf
      exact bo (by rw[aD];rfl)
    ·have bq:j=al.length:=by have: ¬j<(ax.cz al).length:=by simpa using g1
                             omega
     subst bq;rw[aL]at aD;conv=>whnf
     exact bo (by rw[aD];simp)
  ·iterate 16
    all_goals(try(conv=>whnf))
    all_goals(first|(refine bf Eb ?_)|(refine bf h1 ?_)|(refine bf h2 ?_)|(refine bf h3 ?_)|(refine bf h4 ?_)|(refine bf h7 ?_)|(refine ae (fun hb=>?_) (fun hb=>?_))|(refine⟨_,dA _,?_⟩)|(refine⟨_,iO _,?_⟩)|(refine⟨_,pF _,?_⟩)|(refine⟨_,ov _,?_⟩)|(refine⟨_,oa _,?_⟩)|(refine⟨_,nO _ _,?_⟩)|skip)
   all_goals(first
    |exact bo (by clear ih jt dA iO pF ov oa nO hw fB fm;simp only[form,ax.aw,ax.al];rw[ji]at*;simp_all;done)
    |skip)
   all_goals
    refine dJ (fun m st=>∃(j:Nat)(ok:Bool),j+m=al.length/\st.tm 1=i64 ((d+1:Nat):Int)/\st.tm 2= .ptr 0 0 0/\st.tm 5= .bool ok/\st.tm 6=i64 (j:Nat)/\st.hp=[.box (ax.mk 7 n aA cells a b ao agg c al).enc]/\(own (ax.mk 7 n aA cells a b ao agg c al)&&al.all (form d))=(ok&&(al.drop j).all (form d))) (fun m st hI=>?_) al.length _ ⟨0,_,by simp,rfl,rfl,rfl,rfl,rfl,by clear ih jt dA iO pF ov oa nO hw fB fm ji qM jK fL Eb;first|(simp_all[own];done)|(simp_all[own];intros;omega)⟩
    have nB:form (d+1) (ax.mk 7 n aA cells a b ao agg c al)=(own (ax.mk 7 n aA cells a b ao agg c al)&&al.all (form d)):=by
     clear ih jt dA iO pF ov oa nO hw fB fm hI;simp only[form,ax.aw,ax.al];rw[ji]at*;simp_all
    obtain⟨j,ok,hj,e1,e2,e5,e6,hh,aD⟩:=hI;rw[nB];obtain⟨tm,hq⟩:=st;simp only at e1 e2 e5 e6 hh;subst hh;rw[show tm=eU (eU (eU (eU tm 1 (i64 ((d+1:Nat):Int))) 2 (.ptr 0 0 0)) 5 (.bool ok)) 6 (i64 (j:Nat)) by rw[aP e1,aP e2,aP e5,aP e6]];clear e1 e2 e5 e6;conv=>whnf
    refine ae (fun g1=>?_) (fun g1=>?_)
    ·have bq:j<al.length:=by have:j<(ax.cz al).length:=by simpa using g1
                             omega
     conv=>whnf
     refine ae (fun g2=>?_) (fun g2=>?_)
     ·have dt:ok=true:=g2;subst dt;rw[ar bq,List.all_cons]at aD;have eI:=jt al[j] (ay bq);have cx:(ax.cz al)[((j:Nat):Int).toNat]?=some al[j].enc:=by rw[aq,eK,au bq];rfl
      generalize al[j]=q at eI cx aD;obtain⟨cd,n',cr,bK,a',b',cm,cX,c',bU⟩:=q;conv=>whnf
      refine⟨_,cx,by omega,rfl,?_⟩;conv=>whnf
      refine⟨_,eI _,?_⟩;conv=>whnf
      refine ae (fun g3=>?_) (fun g3=>?_)
      ·conv=>whnf
       exact⟨m-1,by omega,j+1,true,by omega,rfl,rfl,rfl,aQ j (by omega),rfl,by rw[aD,g3];rfl⟩
      ·conv=>whnf
       exact⟨m-1,by omega,j+1,false,by omega,rfl,rfl,rfl,aQ j (by omega),rfl,by rw[aD,g3];rfl⟩
     ·have dt:ok=false:=g2;subst dt;conv=>whnf
      exact bo (by rw[aD];rfl)
    ·have bq:j=al.length:=by have: ¬j<(ax.cz al).length:=by simpa using g1
                             omega
     subst bq;rw[aL]at aD;conv=>whnf
     exact bo (by rw[aD];simp)
  ·iterate 16
    all_goals(try(conv=>whnf))
    all_goals(first|(refine bf Eb ?_)|(refine bf h1 ?_)|(refine bf h2 ?_)|(refine bf h3 ?_)|(refine bf h4 ?_)|(refine bf h7 ?_)|(refine ae (fun hb=>?_) (fun hb=>?_))|(refine⟨_,dA _,?_⟩)|(refine⟨_,iO _,?_⟩)|(refine⟨_,pF _,?_⟩)|(refine⟨_,ov _,?_⟩)|(refine⟨_,oa _,?_⟩)|(refine⟨_,nO _ _,?_⟩)|skip)
   all_goals(first
    |exact bo (by clear ih jt dA iO pF ov oa nO hw fB fm;simp only[form,ax.aw,ax.al];rw[ji]at*;simp_all;done)
    |skip)
   all_goals
    refine dJ (fun m st=>∃(j:Nat)(ok:Bool),j+m=al.length/\st.tm 1=i64 ((d+1:Nat):Int)/\st.tm 2= .ptr 0 0 0/\st.tm 5= .bool ok/\st.tm 6=i64 (j:Nat)/\st.hp=[.box (ax.mk aw n aA cells a b ao agg c al).enc]/\(own (ax.mk aw n aA cells a b ao agg c al)&&al.all (form d))=(ok&&(al.drop j).all (form d))) (fun m st hI=>?_) al.length _ ⟨0,_,by simp,rfl,rfl,rfl,rfl,rfl,by clear ih jt dA iO pF ov oa nO hw fB fm ji qM jK fL Eb;first|(simp_all[own];done)|(simp_all[own];intros;omega)⟩
    have nB:form (d+1) (ax.mk aw n aA cells a b ao agg c al)=(own (ax.mk aw n aA cells a b ao agg c al)&&al.all (form d)):=by
     clear ih jt dA iO pF ov oa nO hw fB fm hI;simp only[form,ax.aw,ax.al];rw[ji]at*;simp_all
    obtain⟨j,ok,hj,e1,e2,e5,e6,hh,aD⟩:=hI;rw[nB];obtain⟨tm,hq⟩:=st;simp only at e1 e2 e5 e6 hh;subst hh;rw[show tm=eU (eU (eU (eU tm 1 (i64 ((d+1:Nat):Int))) 2 (.ptr 0 0 0)) 5 (.bool ok)) 6 (i64 (j:Nat)) by rw[aP e1,aP e2,aP e5,aP e6]];clear e1 e2 e5 e6;conv=>whnf
    refine ae (fun g1=>?_) (fun g1=>?_)
    ·have bq:j<al.length:=by have:j<(ax.cz al).length:=by simpa using g1
                             omega
     conv=>whnf
     refine ae (fun g2=>?_) (fun g2=>?_)
     ·have dt:ok=true:=g2;subst dt;rw[ar bq,List.all_cons]at aD;have eI:=jt al[j] (ay bq);have cx:(ax.cz al)[((j:Nat):Int).toNat]?=some al[j].enc:=by rw[aq,eK,au bq];rfl
      generalize al[j]=q at eI cx aD;obtain⟨cd,n',cr,bK,a',b',cm,cX,c',bU⟩:=q;conv=>whnf
      refine⟨_,cx,by omega,rfl,?_⟩;conv=>whnf
      refine⟨_,eI _,?_⟩;conv=>whnf
      refine ae (fun g3=>?_) (fun g3=>?_)
      ·conv=>whnf
       exact⟨m-1,by omega,j+1,true,by omega,rfl,rfl,rfl,aQ j (by omega),rfl,by rw[aD,g3];rfl⟩
      ·conv=>whnf
       exact⟨m-1,by omega,j+1,false,by omega,rfl,rfl,rfl,aQ j (by omega),rfl,by rw[aD,g3];rfl⟩
     ·have dt:ok=false:=g2;subst dt;conv=>whnf
      exact bo (by rw[aD];rfl)
    ·have bq:j=al.length:=by have: ¬j<(ax.cz al).length:=by simpa using g1
                             omega
     subst bq;rw[aL]at aD;conv=>whnf
     exact bo (by rw[aD];simp)
end Go.Proofs.YtfepbikckfehlaaGreat
set_option maxHeartbeats 4000000
namespace Go.Proofs.YtfepbikckfehlaaGreat
open Go Go.Am
variable{pr:bL}(hp:bV pr)
set_option maxRecDepth 100000
def fit(p:ax):Bool:=form 6 p&&decide (many 6 p<=10)
theorem RX(hp:bV pr)(p:ax)(fm:p.small):dm pr 97 [p.enc] (.bool (fit p)):=by
 have h1:=PS hp 6 p fm (by omega);have h2:=Fu hp 6 p fm (by omega);obtain⟨aw,n,aA,cells,a,b,ao,agg,c,al⟩:=p;refine bY hp rfl rfl ?_
 iterate 5
  all_goals(try(conv=>whnf))
  all_goals(first|(refine ae (fun hb=>?_) (fun hb=>?_))|(refine⟨_,h1 _,?_⟩)|(refine⟨_,h2 _,?_⟩)|skip)
 all_goals exact bo (by clear h1 h2 fm;first|(simp_all[fit];done)|(simp_all[fit];omega))
mutual
def once:ax->Bool
 | .mk aw _ _ _ _ _ _ _ _ al=>
  if aw=6∨aw=7 then true
  else if aw=2 then((KX al)[0]?).getD false
  else if aw=4 then((KX al)[0]?).getD false&&((KX al)[1]?).getD false
  else false
def KX:List ax->List Bool
 | []=>[]
 |p::ps=>once p::KX ps
end
theorem MD{d:Nat}{p:ax}(h:form (d+1) p=true):bX p.aw=p.al.length/\clean p=true/\own p=true/\ ∀q∈p.al,form d q=true:=by
 simp only[form,aj,beq_iff_eq,aG]at h;exact⟨h.1,h.2.1,h.2.2.1,h.2.2.2⟩
end Go.Proofs.YtfepbikckfehlaaGreat
set_option maxHeartbeats 4000000
namespace Go.Proofs.YtfepbikckfehlaaGreat
open Go Go.Am
mutual
def GJ:ax->Nat
 | .mk _ _ _ _ _ _ _ _ _ al=>1+vc al
def vc:List ax->Nat
 | []=>0
 |p::ps=>GJ p+vc ps
end
mutual
def dep:ax->Nat
 | .mk _ _ _ _ _ _ _ _ _ al=>1+cZ al
def cZ:List ax->Nat
 | []=>0
 |p::ps=>max (dep p) (cZ ps)
end
theorem rP{q:ax}: ∀{ps:List ax},q∈ps->dep q<=cZ ps
 |p::ps,h=>by
  simp only[cZ];rcases aW.1 h with rfl|h
  ·omega
  ·have:=rP h;omega
theorem RY{ps:List ax}{d:Nat}(h: ∀q∈ps,dep q<=d):cZ ps<=d:=by
 induction ps with
 |nil=>simp[cZ]
 |cons p ps ih=>
  simp only[cZ];have h1:=h p (by simp);have h2:=ih fun q hq=>h q (by simp[hq]);omega
theorem RZ(ps:List ax):vc ps=(ps.map GJ).sum:=by
 induction ps with
 |nil=>rfl
 |cons p ps ih=>simp[vc,ih]
theorem ME{N:Nat}(ih: ∀t:ax,SizeOf.sizeOf t<=N-> ∀deep m,m<=10->(deep+dep t<=6/\m+GJ t<=10->wk mj deep t m m= .go (m+GJ t) (m+GJ t))/\(¬(deep+dep t<=6/\m+GJ t<=10)-> ∃s,wk mj deep t m m= .stop s)):
  ∀(l:List ax),SizeOf.sizeOf l<=N+1-> ∀deep m,m<=10->(deep+cZ l<=6∨l=[])/\m+vc l<=10/\Ga mj deep l m m= .go (m+vc l) (m+vc l)∨(¬(deep+cZ l<=6/\m+vc l<=10)/\ ∃s,Ga mj deep l m m= .stop s):=by
   intro l
   induction l with
   |nil=>intro _ deep m hm;exact .inl ⟨.inr rfl,by simp[vc,hm],by simp[Ga,vc]⟩
   |cons p ps VQ=>
    intro hs deep m hm;simp at hs;obtain⟨h1,h2⟩:=ih p (by omega) deep m hm
    by_cases hc:deep+dep p<=6/\m+GJ p<=10
    ·have hw:=h1 hc;rcases VQ (by omega) deep (m+GJ p) hc.2 with⟨g1,g2,g3⟩|⟨g1,s,g3⟩
     ·left
      refine⟨.inl ?_,by simp only[vc];omega,?_⟩
      ·simp only[cZ];rcases g1 with g1|g1
       ·omega
       ·subst g1;simp only[cZ];omega
      ·simp only[Ga,hw,g3,vc];congr 1<;>omega
     ·right
      refine⟨fun hh=>g1 ⟨?_,?_⟩,s,by simp only[Ga,hw,g3]⟩
      ·have:=hh.1;simp only[cZ]at this;omega
      ·have:=hh.2;simp only[vc]at this;omega
    ·obtain⟨s,hw⟩:=h2 hc
     right
     refine⟨fun hh=>hc ⟨?_,?_⟩,s,by simp only[Ga,hw]⟩
     ·have:=hh.1;simp only[cZ]at this;omega
     ·have:=hh.2;simp only[vc]at this;omega
theorem PT: ∀(N:Nat)(t:ax),SizeOf.sizeOf t<=N-> ∀deep m,m<=10->(deep+dep t<=6/\m+GJ t<=10->wk mj deep t m m= .go (m+GJ t) (m+GJ t))/\(¬(deep+dep t<=6/\m+GJ t<=10)-> ∃s,wk mj deep t m m= .stop s):=by
 intro N
 induction N with
 |zero=>intro t h;cases t;simp at h
 |succ N ih=>
  intro t hs deep m hm;obtain⟨aw,n,aA,cells,a,b,ao,agg,c,al⟩:=t;simp at hs;have hk:=ME ih al (by omega) (deep+1) (m+1);simp only[wk,mj,GJ,dep]
  by_cases h0:10<m+1∨6<=deep
  ·simp only[h0,decide_true,Bool.not_true];exact⟨fun hh=>by omega,fun _=>⟨_,rfl⟩⟩
  ·simp only[h0,decide_false,Bool.not_false,if_false];rcases hk (by omega)with⟨g1,g2,g3⟩|⟨g1,s,g3⟩
   ·refine⟨fun _=>by rw[g3];congr 1<;>omega,fun hn=>(hn ⟨?_,by omega⟩).elim⟩;rcases g1 with g1|g1
    ·omega
    ·subst g1;simp only[cZ];omega
   ·exact⟨fun hh=>(g1 ⟨by omega,by omega⟩).elim,fun _=>⟨s,g3⟩⟩
theorem Ag(t:ax):kE t=(decide (dep t<=6)&&decide (GJ t<=10)):=by
 obtain⟨h1,h2⟩:=PT _ t (aB _) 0 0 (by omega);unfold kE
 by_cases h:0+dep t<=6/\0+GJ t<=10
 ·rw[h1 h];simp only[bg]at h;simp[h.1,h.2]
 ·obtain⟨s,hs⟩:=h2 h;rw[hs];simp only[bg]at h;simp only;rw[Bool.eq_iff_iff];simp only[aj,decide_eq_true_eq,Bool.false_eq_true,false_iff];exact h
theorem GK: ∀(d:Nat)(p:ax),dep p<=d+1->many d p=GJ p:=by
 intro d
 induction d with
 |zero=>
  intro p h;obtain⟨aw,n,aA,cells,a,b,ao,agg,c,al⟩:=p
  cases al with
  |nil=>rfl
  |cons q qs=>
   obtain⟨_,_,_,_,_,_,_,_,_,_⟩:=q;simp only[dep,cZ]at h
   omega
 |succ d ih=>
  intro p h;obtain⟨aw,n,aA,cells,a,b,ao,agg,c,al⟩:=p;simp only[dep]at h;simp only[many,ax.al,GJ,RZ]
  congr 2
  exact List.map_congr_left fun q hq=>ih q (by have:=rP hq;omega)
theorem GL: ∀(d:Nat)(p:ax),form d p=true->dep p<=d:=by
 intro d
 induction d with
 |zero=>intro p h;cases h
 |succ d ih=>
  intro p h;obtain⟨_,_,_,hk⟩:=MD h;obtain⟨aw,n,aA,cells,a,b,ao,agg,c,al⟩:=p;simp only[dep];have:cZ al<=d:=RY (d:=d) fun q hq=>ih q (hk q hq);omega
def w6:List Int:=[6,6,6]
theorem UF(w:Int):kU w=6/\w≠ -1∨kU w= -1/\w= -1:=by
 unfold kU
 by_cases h:w= -1
 ·right;subst h;exact⟨rfl,rfl⟩
 ·left;exact⟨by simp[h],h⟩
theorem xN{d:Nat}: ∀(l:List ax),(∀q∈l,bQ kU w6 q=if form d q then 6 else-1)->fY kU w6 l=if l.all (form d)then some (List.replicate l.length 6)else none
 | [],_=>rfl
 |p::ps,h=>by
  have h1:=h p (by simp);have h2:=xN ps fun q hq=>h q (by simp[hq]);simp only[fY,h1,h2,List.all_cons]
  by_cases h3:form d p=true
  ·by_cases h4:ps.all (form d)=true
   ·simp only[h3,h4];rfl
   ·simp only[h3,h4];rfl
  ·simp only[h3];rfl
theorem DK(p:ax)(hs:shaped p=true)(hk:p.aw≠1):(bI p (List.replicate p.al.length 6)≠ -1)↔own p=true:=by
 obtain⟨aw,n,aA,cells,a,b,ao,agg,c,al⟩:=p;simp only[shaped,ax.aw,ax.al,aj,beq_iff_eq]at hs hk⊢;obtain⟨hlen,_⟩:=hs;have Jq:al.length≠0->nth (List.replicate al.length 6) 0=6:=fun h=>by simp[nth,List.getElem?_replicate,Nat.pos_of_ne_zero h]
 have UG:al.length=2->nth (List.replicate al.length 6) 1=6:=fun h=>by simp[nth,h]
 rcases eR aw with rfl|rfl|rfl|rfl|rfl|rfl|rfl|⟨h1,h2,h3,h4,h5,h6,h7⟩
 ·exact(hk rfl).elim
 ·have:al.length=1:=by simp[bX]at hlen;omega
  simp only[bI,own,Jq (by omega)];cases jG aA 6<;>simp
 ·have:al.length=1:=by simp[bX]at hlen;omega
  simp only[bI,own,Jq (by omega),ja]
  by_cases ha:(cells.all fun c=>d9 c 6)=true
  ·by_cases hb:1<=cells.length/\cells.length<=6
   ·simp[ha,hb.1,hb.2]
    try omega
   ·have: ¬(1<=cells.length)∨ ¬cells.length<=6:=by omega
    rcases this with h|h<;>simp[ha,h]
  ·simp[ha]
 ·have:al.length=2:=by simp[bX]at hlen;omega
  simp only[bI,own,Jq (by omega),UG this];have hw:IntKind.i64.wrap ((6:Int)+6)=12:=by decide
  rw[hw];cases(col a 6&&col b 6)<;>simp
 ·have:al.length=2:=by simp[bX]at hlen;omega
  simp only[bI,own,Jq (by omega),UG this];simp
 ·have:al.length=1:=by simp[bX]at hlen;omega
  simp only[bI,own,Jq (by omega)];simp
 ·have:al.length=1:=by simp[bX]at hlen;omega
  simp only[bI,own,Jq (by omega)]
  by_cases h1:(dY ao 6&&col c 6)=true
  ·by_cases h2:0<=agg
   ·by_cases h3:agg<=3
    ·simp only[aj]at h1;simp[h1.1,h1.2,h2,h3];omega
    ·simp[h3]
   ·simp[h2]
  ·have NS:(dY ao 6&&col c 6)=false:=by simpa using h1
   by_cases h4:dY ao 6=true
   ·have h5:col c 6=false:=by rw[h4]at NS;simpa using NS
    simp[h4,h5]
   ·simp[h4]
 ·exfalso;simp only[beq_eq_false_iff_ne,ne_eq]at*;simp[bX,h1,h2,h3,h4,h5,h6,h7]at hlen
  try omega
theorem Jr: ∀(d:Nat)(p:ax),dep p<=d->bQ kU w6 p=if form d p then 6 else-1:=by
 intro d
 induction d with
 |zero=>
  intro p h;obtain⟨aw,n,aA,cells,a,b,ao,agg,c,al⟩:=p;simp only[dep]at h
  omega
 |succ d ih=>
  intro p h;have TY:=DK p;obtain⟨aw,n,aA,cells,a,b,ao,agg,c,al⟩:=p;simp only[dep]at h;have vG:=xN (d:=d) al fun q hq=>ih q (by have:=rP hq;omega)
  have hf:form (d+1) (.mk aw n aA cells a b ao agg c al)=(shaped (.mk aw n aA cells a b ao agg c al)&&(own (.mk aw n aA cells a b ao agg c al)&&al.all (form d))):=by
   simp only[form,shaped,Bool.and_assoc,ax.al]
  rw[hf,bQ]
  by_cases hs:shaped (.mk aw n aA cells a b ao agg c al)=true
  ·rw[if_pos hs,hs,aX]
   by_cases hk:aw=1
   ·subst hk
    have tX:al=[]:=by
     simp only[shaped,ax.aw,ax.al,aj,beq_iff_eq]at hs;have:=hs.1;simp[bX]at this;exact bk.1 (by omega)
    subst tX;have ZY:own (.mk 1 n aA cells a b ao agg c [])=(decide (0<=n)&&decide (n<3)):=rfl;have wH:bI (.mk 1 n aA cells a b ao agg c []) w6=if decide (0<=n)&&decide (n<3)then nth w6 n.toNat else-1:=rfl
    rw[if_pos rfl,ZY,wH]
    by_cases hn:(decide (0<=n)&&decide (n<3))=true
    ·rw[if_pos hn,hn];simp only[aj,decide_eq_true_eq]at hn;have h3:n=0∨n=1∨n=2:=by omega
     rcases h3 with rfl|rfl|rfl<;>rfl
    ·have Qz:(decide (0<=n)&&decide (n<3))=false:=by simpa using hn
     rw[Qz];rfl
   ·rw[if_neg hk,vG];have UH:=TY hs hk;simp only[ax.al]at UH
    by_cases ha:al.all (form d)=true
    ·rw[ha]
     have kY:al.length≠0:=by
      intro h0;simp only[shaped,ax.aw,ax.al,aj,beq_iff_eq]at hs;have:=hs.1;rw[h0]at this
      rcases eR aw with rfl|rfl|rfl|rfl|rfl|rfl|rfl|⟨h1,h2,h3,h4,h5,h6,h7⟩<;>first
       |exact hk rfl
       |(simp[bX]at this;done)
       |(simp only[beq_eq_false_iff_ne,ne_eq]at*;simp[bX,h1,h2,h3,h4,h5,h6,h7]at this)
     have Ur:(List.replicate al.length (6:Int)).isEmpty=false:=by
      cases hq:al.length with
      |zero=>exact(kY hq).elim
      |succ k=>rfl
     simp only[if_true,Ur];rcases UF (bI (.mk aw n aA cells a b ao agg c al) (List.replicate al.length 6))with⟨g1,g2⟩|⟨g1,g2⟩
     ·rw[UH.1 g2];simpa using g1
     ·have:own (.mk aw n aA cells a b ao agg c al)=false:=by
       cases ho:own (.mk aw n aA cells a b ao agg c al)with
       |false=>rfl
       |true=>exact(UH.2 ho g2).elim
      rw[this];simpa using g1
    ·have TU:al.all (form d)=false:=by simpa using ha
     rw[TU];simp
  ·have Ko:shaped (.mk aw n aA cells a b ao agg c al)=false:=by simpa using hs
   rw[if_neg hs,Ko];rfl
def sv(p:ax):Bool:=kE p&&(bQ kU w6 p != -1)
theorem DL(p:ax):sv p=fit p:=by
 unfold sv fit;rw[Ag]
 by_cases hd:dep p<=6
 ·have h1:=Jr 6 p hd;have h2:=GK 6 p (by omega);rw[h1,h2];cases form 6 p<;>simp[hd]
 ·have:form 6 p=false:=by
   cases hf:form 6 p with
   |false=>rfl
   |true=>exact(hd (GL 6 p hf)).elim
  rw[this];simp[hd]
end Go.Proofs.YtfepbikckfehlaaGreat
set_option maxHeartbeats 4000000
namespace Go.Proofs.YtfepbikckfehlaaGreat
open Go Go.Am
variable{pr:bL}(hp:bV pr)(hs:B8 pr)
set_option maxRecDepth 100000
theorem Js(hs:B8 pr)(p:ax)(fm:p.small):dm pr 110 [p.enc] (.bool (fit p)):=by
 have h1:=hs.size p fm;have h2:=PR hs.tobV w6 (by decide) _ p (aB _) fm;rw[<-DL];obtain⟨aw,n,aA,cells,a,b,ao,agg,c,al⟩:=p;refine bY hs.tobV rfl rfl ?_;conv=>whnf
 refine⟨_,h1 _,?_⟩;conv=>whnf
 refine ae (fun g1=>?_) (fun g1=>?_)
 ·conv=>whnf
  refine⟨_,h2.frozen rfl rfl rfl rfl,?_⟩
  iterate 3
   all_goals(try(conv=>whnf))
   all_goals(first|(refine ae (fun hb=>?_) (fun hb=>?_))|skip)
  all_goals exact bo (by rw[sv,g1,aX];exact hb.symm)
 ·conv=>whnf
  exact bo (by rw[sv,g1];rfl)
end Go.Proofs.YtfepbikckfehlaaGreat

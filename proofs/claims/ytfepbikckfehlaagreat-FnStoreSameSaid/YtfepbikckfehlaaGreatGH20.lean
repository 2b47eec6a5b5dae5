/- A heap in parts: what lies where, and that no two parts meet. -/
import Derived.Test.YtfepbikckfehlaaGreatGSPe
import Derived.Test.YtfepbikckfehlaaGreatGH14
import Derived.Test.YtfepbikckfehlaaGreatGH15
import Derived.Test.YtfepbikckfehlaaGreatGH12
set_option linter.unusedVariables false
set_option linter.unusedSimpArgs false
set_option maxHeartbeats 4000000
namespace Go.Proofs.YtfepbikckfehlaaGreat
open Go Go.Am
theorem TC{a b:Int}(h:i64 a=i64 b):a=b:=by cases h;rfl
theorem QI{a b:Cell}(h:a.enc=b.enc):a=b:=by
 obtain⟨k,x,y,z⟩:=a;obtain⟨k',x',y',z'⟩:=b;simp only[Cell.enc,i64,af.agg.injEq,List.cons.injEq,af.int.injEq,true_and,and_true]at h;obtain⟨rfl,rfl,rfl,rfl⟩:=h;rfl
theorem map_inj{α:Type}{f:α->af}(hf: ∀a b,f a=f b->a=b): ∀(l l':List α),l.map f=l'.map f->l=l'
 | [],[],_=>rfl
 | [],_::_,h=>by simp at h
 |_::_,[],h=>by simp at h
 |a::l,b::l',h=>by
  simp only[aao,List.cons.injEq]at h;rw[hf _ _ h.1,map_inj hf l l' h.2]
theorem HN{N:Nat}(ih: ∀t t':aA,SizeOf.sizeOf t<=N->t.enc=t'.enc->t=t'): ∀(l l':List aA),SizeOf.sizeOf l<=N+1->aA.dv l=aA.dv l'->l=l'
 | [],[],_,_=>rfl
 | [],_::_,_,h=>by simp[aA.dv]at h
 |_::_,[],_,h=>by simp[aA.dv]at h
 |a::l,b::l',hs,h=>by
  simp only[aA.dv,List.cons.injEq]at h;simp at hs;rw[ih a b (by omega) h.1,HN ih l l' (by omega) h.2]
theorem QJ: ∀(N:Nat)(t t':aA),SizeOf.sizeOf t<=N->t.enc=t'.enc->t=t':=by
 intro N
 induction N with
 |zero=>intro t t' h;cases t;simp at h
 |succ N ih=>
  intro t t' hs h;obtain⟨au,n,⟨tk,tn,⟨a1,a2,a3,a4⟩,⟨b1,b2,b3,b4⟩⟩,cells,a,b,aq,agg,col,ao⟩:=t;obtain⟨cG,n',⟨TD,Yo,⟨a1',NX,a3',a4'⟩,⟨b1',b2',b3',b4'⟩⟩,bR,a',b',cH,dE,ke,cE⟩:=t';simp only[aA.enc,i64,af.agg.injEq,List.cons.injEq,af.int.injEq,af.bool.injEq,af.sl.injEq,true_and,and_true]at h;obtain⟨rfl,rfl,rfl,rfl,rfl,rfl,rfl,rfl,rfl,rfl,rfl,rfl,hc,rfl,rfl,hk,rfl,rfl,vU⟩:=h;rw[map_inj (fun _ _=>QI) _ _ hc,map_inj (fun _ _=>TC) _ _ hk,HN ih ao cE (by simp at hs;omega) vU]
theorem TE{t t':aA}(h:t.enc=t'.enc):t=t':=QJ _ t t' (aah _) h
open Classical in
noncomputable def sV(args:List af)(h:aG):Option ef:=
 if hx: ∃t:aA,t.small/\args=[t.enc]/\h=[]then some (.ret (.bool (lW hx.choose)) [])else none
theorem CG{t:aA}(ht:t.small):sV [t.enc] []=some (.ret (.bool (lW t)) []):=by
 have hx: ∃t':aA,t'.small/\[t.enc]=[t'.enc]/\([]:aG)=[]:=⟨t,ht,rfl,rfl⟩;unfold sV;rw[dif_pos hx];have:hx.choose=t:=(TE (by simpa using hx.choose_spec.2.1)).symm;rw[this]
noncomputable def TF:bW:=fun f=>if f==29 then some sV else Sq f
theorem HO{f g:FuncId}(h:plain f=true)(hg:plain g=false):(f==g)=false:=by
 cases hc:f==g with
 |false=>rfl
 |true=>
  have:f=g:=by simpa using hc
  subst this;rw[hg]at h;cases h
theorem ok1:cF TF:=⟨fun f h=>by
 unfold TF;rw[HO h (g:=29) (by rfl)];exact Dy h⟩
theorem Mx(f:FuncId)(h:bad f=true):TF f≠none:=by
 unfold TF;split
 ·exact fun e=>by cases e
 ·exact Mv f h
theorem TG{f:FuncId}{args:List af}{r:af}(hs:r.isScalar=true)(hc:jr cf none f args [] HM fun v _ _=>v=r){E:Env}{w:World}{vs:Array Value}(s:eG E [] w)(hf:Full E [])(hg:ug gV E.S w)(hr:hH E w args vs):
  Calls Tryz.prog f vs w (vX E [] w (.ret r [])):=by
   refine Calls.mono (hc E w vs s hf hg hr trivial) fun e w' he=>?_
   cases e with
   |panicked ch=>exact he.elim
   |outgrown=>exact he.elim
   |returned u=>
    obtain⟨v,h',g',E',rfl,s',f',x',r',_⟩:=he;have XX: ∀b,¬E.im b:=fun b⟨id,sl,h1,_⟩=>by rw[hf id (Nat.zero_le _)]at h1;cases h1
    obtain⟨s2,x2⟩:=s.grow (w':=w') (fun b hb=>x'.mem b hb (XX b) id) x'.size x'.os x'.tape x'.output;exact⟨v,[],E,rfl,s2,hf,x2,.fJ (r'.closed hs _ _)⟩
theorem US:wj (dZ TF):=EN Mx fun f p args h r hp hr E w vs hb s hf hg lU=>by
 unfold TF at hp;split at hp
 ·rename_i e;have:f=29:=by simpa using e
  subst this;cases hp
  unfold sV at hr;split at hr
  ·rename_i hx;cases hr
   obtain⟨h1,h2,rfl⟩:=hx.choose_spec;have key: ∀xs,xs=[hx.choose.enc]->jr cf none 29 xs [] HM fun v _ _=>v= .bool (lW hx.choose):=fun xs e=>by rw[e];exact QH _ h1
   exact TG rfl (key args h2) s hf hg lU
  ·cases hr
 ·rw[HJ hp]at hr;cases hr
end Go.Proofs.YtfepbikckfehlaaGreat
set_option maxHeartbeats 4000000
namespace Go.Proofs.YtfepbikckfehlaaGreat
open Go Go.Am
mutual
def HP:aA->Nat
 | .mk _ _ _ _ _ _ _ _ _ ao=>1+wB ao
def wB:List aA->Nat
 | []=>0
 |p::ps=>HP p+wB ps
end
mutual
def dep:aA->Nat
 | .mk _ _ _ _ _ _ _ _ _ ao=>1+dO ao
def dO:List aA->Nat
 | []=>0
 |p::ps=>max (dep p) (dO ps)
end
theorem sW{q:aA}: ∀{ps:List aA},q∈ps->dep q<=dO ps
 |p::ps,h=>by
  simp only[dO];rcases aaz.1 h with rfl|h
  ·omega
  ·have:=sW h;omega
theorem TH{ps:List aA}{d:Nat}(h: ∀q∈ps,dep q<=d):dO ps<=d:=by
 induction ps with
 |nil=>simp[dO]
 |cons p ps ih=>
  simp only[dO];have h1:=h p (by simp);have h2:=ih fun q hq=>h q (by simp[hq]);omega
theorem TI(ps:List aA):wB ps=(ps.map HP).sum:=by
 induction ps with
 |nil=>rfl
 |cons p ps ih=>simp[wB,ih]
theorem NY{N:Nat}(ih: ∀t:aA,SizeOf.sizeOf t<=N-> ∀deep m,m<=10->(deep+dep t<=6/\m+HP t<=10->wk nL deep t m m= .go (m+HP t) (m+HP t))/\(¬(deep+dep t<=6/\m+HP t<=10)-> ∃s,wk nL deep t m m= .stop s)):
  ∀(l:List aA),SizeOf.sizeOf l<=N+1-> ∀deep m,m<=10->(deep+dO l<=6∨l=[])/\m+wB l<=10/\HL nL deep l m m= .go (m+wB l) (m+wB l)∨(¬(deep+dO l<=6/\m+wB l<=10)/\ ∃s,HL nL deep l m m= .stop s):=by
   intro l
   induction l with
   |nil=>intro _ deep m hm;exact .inl ⟨.inr rfl,by simp[wB,hm],by simp[HL,wB]⟩
   |cons p ps XJ=>
    intro hs deep m hm;simp at hs;obtain⟨h1,h2⟩:=ih p (by omega) deep m hm
    by_cases hc:deep+dep p<=6/\m+HP p<=10
    ·have hw:=h1 hc;rcases XJ (by omega) deep (m+HP p) hc.2 with⟨g1,g2,g3⟩|⟨g1,s,g3⟩
     ·left
      refine⟨.inl ?_,by simp only[wB];omega,?_⟩
      ·simp only[dO];rcases g1 with g1|g1
       ·omega
       ·subst g1;simp only[dO];omega
      ·simp only[HL,hw,g3,wB];congr 1<;>omega
     ·right
      refine⟨fun hh=>g1 ⟨?_,?_⟩,s,by simp only[HL,hw,g3]⟩
      ·have:=hh.1;simp only[dO]at this;omega
      ·have:=hh.2;simp only[wB]at this;omega
    ·obtain⟨s,hw⟩:=h2 hc
     right
     refine⟨fun hh=>hc ⟨?_,?_⟩,s,by simp only[HL,hw]⟩
     ·have:=hh.1;simp only[dO]at this;omega
     ·have:=hh.2;simp only[wB]at this;omega
theorem QK: ∀(N:Nat)(t:aA),SizeOf.sizeOf t<=N-> ∀deep m,m<=10->(deep+dep t<=6/\m+HP t<=10->wk nL deep t m m= .go (m+HP t) (m+HP t))/\(¬(deep+dep t<=6/\m+HP t<=10)-> ∃s,wk nL deep t m m= .stop s):=by
 intro N
 induction N with
 |zero=>intro t h;cases t;simp at h
 |succ N ih=>
  intro t hs deep m hm;obtain⟨au,n,aD,cells,a,b,aq,agg,c,ao⟩:=t;simp at hs;have hk:=NY ih ao (by omega) (deep+1) (m+1);simp only[wk,nL,HP,dep]
  by_cases h0:10<m+1∨6<=deep
  ·simp only[h0,decide_true,Bool.not_true];exact⟨fun hh=>by omega,fun _=>⟨_,rfl⟩⟩
  ·simp only[h0,decide_false,Bool.not_false,if_false];rcases hk (by omega)with⟨g1,g2,g3⟩|⟨g1,s,g3⟩
   ·refine⟨fun _=>by rw[g3];congr 1<;>omega,fun hn=>(hn ⟨?_,by omega⟩).elim⟩;rcases g1 with g1|g1
    ·omega
    ·subst g1;simp only[dO];omega
   ·exact⟨fun hh=>(g1 ⟨by omega,by omega⟩).elim,fun _=>⟨s,g3⟩⟩
theorem Bb(t:aA):lW t=(decide (dep t<=6)&&decide (HP t<=10)):=by
 obtain⟨h1,h2⟩:=QK _ t (aah _) 0 0 (by omega);unfold lW
 by_cases h:0+dep t<=6/\0+HP t<=10
 ·rw[h1 h];simp only[aaK]at h;simp[h.1,h.2]
 ·obtain⟨s,hs⟩:=h2 h;rw[hs];simp only[aaK]at h;simp only;rw[Bool.eq_iff_iff];simp only[xz,decide_eq_true_eq,Bool.false_eq_true,false_iff];exact h
theorem HQ: ∀(d:Nat)(p:aA),dep p<=d+1->many d p=HP p:=by
 intro d
 induction d with
 |zero=>
  intro p h;obtain⟨au,n,aD,cells,a,b,aq,agg,c,ao⟩:=p
  cases ao with
  |nil=>rfl
  |cons q qs=>
   obtain⟨_,_,_,_,_,_,_,_,_,_⟩:=q;simp only[dep,dO]at h
   omega
 |succ d ih=>
  intro p h;obtain⟨au,n,aD,cells,a,b,aq,agg,c,ao⟩:=p;simp only[dep]at h;simp only[many,aA.ao,HP,TI]
  congr 2
  exact List.map_congr_left fun q hq=>ih q (by have:=sW hq;omega)
theorem HR: ∀(d:Nat)(p:aA),form d p=true->dep p<=d:=by
 intro d
 induction d with
 |zero=>intro p h;cases h
 |succ d ih=>
  intro p h;obtain⟨_,_,_,hk⟩:=NU h;obtain⟨au,n,aD,cells,a,b,aq,agg,c,ao⟩:=p;simp only[dep];have:dO ao<=d:=TH (d:=d) fun q hq=>ih q (hk q hq);omega
def w6:List Int:=[6,6,6]
theorem Wc(w:Int):mz w=6/\w≠ -1∨mz w= -1/\w= -1:=by
 unfold mz
 by_cases h:w= -1
 ·right;subst h;exact⟨rfl,rfl⟩
 ·left;exact⟨by simp[h],h⟩
theorem y4{d:Nat}: ∀(l:List aA),(∀q∈l,cr mz w6 q=if form d q then 6 else-1)->ic mz w6 l=if l.all (form d)then some (List.replicate l.length 6)else none
 | [],_=>rfl
 |p::ps,h=>by
  have h1:=h p (by simp);have h2:=y4 ps fun q hq=>h q (by simp[hq]);simp only[ic,h1,h2,abi]
  by_cases h3:form d p=true
  ·by_cases h4:ps.all (form d)=true
   ·simp only[h3,h4];rfl
   ·simp only[h3,h4];rfl
  ·simp only[h3];rfl
theorem EY(p:aA)(hs:shaped p=true)(hk:p.au≠1):(bU p (List.replicate p.ao.length 6)≠ -1)↔own p=true:=by
 obtain⟨au,n,aD,cells,a,b,aq,agg,c,ao⟩:=p;simp only[shaped,aA.au,aA.ao,xz,beq_iff_eq]at hs hk⊢;obtain⟨hlen,_⟩:=hs;have KA:ao.length≠0->nth (List.replicate ao.length 6) 0=6:=fun h=>by simp[nth,List.getElem?_replicate,Nat.pos_of_ne_zero h]
 have Wd:ao.length=2->nth (List.replicate ao.length 6) 1=6:=fun h=>by simp[nth,h]
 rcases fU au with rfl|rfl|rfl|rfl|rfl|rfl|rfl|⟨h1,h2,h3,h4,h5,h6,h7⟩
 ·exact(hk rfl).elim
 ·have:ao.length=1:=by simp[cU]at hlen;omega
  simp only[bU,own,KA (by omega)];cases kZ aD 6<;>simp
 ·have:ao.length=1:=by simp[cU]at hlen;omega
  simp only[bU,own,KA (by omega),j9]
  by_cases ha:(cells.all fun c=>fe c 6)=true
  ·by_cases hb:1<=cells.length/\cells.length<=6
   ·simp[ha,hb.1,hb.2]
    try omega
   ·have: ¬(1<=cells.length)∨ ¬cells.length<=6:=by omega
    rcases this with h|h<;>simp[ha,h]
  ·simp[ha]
 ·have:ao.length=2:=by simp[cU]at hlen;omega
  simp only[bU,own,KA (by omega),Wd this];have hw:IntKind.i64.wrap ((6:Int)+6)=12:=by decide
  rw[hw];cases(col a 6&&col b 6)<;>simp
 ·have:ao.length=2:=by simp[cU]at hlen;omega
  simp only[bU,own,KA (by omega),Wd this];simp
 ·have:ao.length=1:=by simp[cU]at hlen;omega
  simp only[bU,own,KA (by omega)];simp
 ·have:ao.length=1:=by simp[cU]at hlen;omega
  simp only[bU,own,KA (by omega)]
  by_cases h1:(eU aq 6&&col c 6)=true
  ·by_cases h2:0<=agg
   ·by_cases h3:agg<=3
    ·simp only[xz]at h1;simp[h1.1,h1.2,h2,h3];omega
    ·simp[h3]
   ·simp[h2]
  ·have PH:(eU aq 6&&col c 6)=false:=by simpa using h1
   by_cases h4:eU aq 6=true
   ·have h5:col c 6=false:=by rw[h4]at PH;simpa using PH
    simp[h4,h5]
   ·simp[h4]
 ·exfalso;simp only[beq_eq_false_iff_ne,ne_eq]at*;simp[cU,h1,h2,h3,h4,h5,h6,h7]at hlen
  try omega
theorem KB: ∀(d:Nat)(p:aA),dep p<=d->cr mz w6 p=if form d p then 6 else-1:=by
 intro d
 induction d with
 |zero=>
  intro p h;obtain⟨au,n,aD,cells,a,b,aq,agg,c,ao⟩:=p;simp only[dep]at h
  omega
 |succ d ih=>
  intro p h;have VN:=EY p;obtain⟨au,n,aD,cells,a,b,aq,agg,c,ao⟩:=p;simp only[dep]at h;have xq:=y4 (d:=d) ao fun q hq=>ih q (by have:=sW hq;omega)
  have hf:form (d+1) (.mk au n aD cells a b aq agg c ao)=(shaped (.mk au n aD cells a b aq agg c ao)&&(own (.mk au n aD cells a b aq agg c ao)&&ao.all (form d))):=by
   simp only[form,shaped,Bool.and_assoc,aA.ao]
  rw[hf,cr]
  by_cases hs:shaped (.mk au n aD cells a b aq agg c ao)=true
  ·rw[if_pos hs,hs,aay]
   by_cases hk:au=1
   ·subst hk
    have vF:ao=[]:=by
     simp only[shaped,aA.au,aA.ao,xz,beq_iff_eq]at hs;have:=hs.1;simp[cU]at this;exact aaM.1 (by omega)
    subst vF;have abn:own (.mk 1 n aD cells a b aq agg c [])=(decide (0<=n)&&decide (n<3)):=rfl;have xP:bU (.mk 1 n aD cells a b aq agg c []) w6=if decide (0<=n)&&decide (n<3)then nth w6 n.toNat else-1:=rfl
    rw[if_pos rfl,abn,xP]
    by_cases hn:(decide (0<=n)&&decide (n<3))=true
    ·rw[if_pos hn,hn];simp only[xz,decide_eq_true_eq]at hn;have h3:n=0∨n=1∨n=2:=by omega
     rcases h3 with rfl|rfl|rfl<;>rfl
    ·have Sm:(decide (0<=n)&&decide (n<3))=false:=by simpa using hn
     rw[Sm];rfl
   ·rw[if_neg hk,xq];have We:=VN hs hk;simp only[aA.ao]at We
    by_cases ha:ao.all (form d)=true
    ·rw[ha]
     have mD:ao.length≠0:=by
      intro h0;simp only[shaped,aA.au,aA.ao,xz,beq_iff_eq]at hs;have:=hs.1;rw[h0]at this
      rcases fU au with rfl|rfl|rfl|rfl|rfl|rfl|rfl|⟨h1,h2,h3,h4,h5,h6,h7⟩<;>first
       |exact hk rfl
       |(simp[cU]at this;done)
       |(simp only[beq_eq_false_iff_ne,ne_eq]at*;simp[cU,h1,h2,h3,h4,h5,h6,h7]at this)
     have Wf:(List.replicate ao.length (6:Int)).isEmpty=false:=by
      cases hq:ao.length with
      |zero=>exact(mD hq).elim
      |succ k=>rfl
     simp only[if_true,Wf];rcases Wc (bU (.mk au n aD cells a b aq agg c ao) (List.replicate ao.length 6))with⟨g1,g2⟩|⟨g1,g2⟩
     ·rw[We.1 g2];simpa using g1
     ·have:own (.mk au n aD cells a b aq agg c ao)=false:=by
       cases ho:own (.mk au n aD cells a b aq agg c ao)with
       |false=>rfl
       |true=>exact(We.2 ho g2).elim
      rw[this];simpa using g1
    ·have VI:ao.all (form d)=false:=by simpa using ha
     rw[VI];simp
  ·have Mh:shaped (.mk au n aD cells a b aq agg c ao)=false:=by simpa using hs
   rw[if_neg hs,Mh];rfl
def tQ(p:aA):Bool:=lW p&&(cr mz w6 p != -1)
theorem EZ(p:aA):tQ p=fit p:=by
 unfold tQ fit;rw[Bb]
 by_cases hd:dep p<=6
 ·have h1:=KB 6 p hd;have h2:=HQ 6 p (by omega);rw[h1,h2];cases form 6 p<;>simp[hd]
 ·have:form 6 p=false:=by
   cases hf:form 6 p with
   |false=>rfl
   |true=>exact(hd (HR 6 p hf)).elim
  rw[this];simp[hd]
end Go.Proofs.YtfepbikckfehlaaGreat
set_option maxHeartbeats 4000000
namespace Go.Proofs.YtfepbikckfehlaaGreat
open Go Go.Am
def kh{α:Type}(f:α->af)(sz:Nat)(h:aG)(xs:List α)(v:af)(F:List Nat):Prop:=
 (xs=[]/\F=[]/\(v= .nil∨v= .sl []))∨ ∃id,v= .own id 0 xs.length/\h[id]?=some (.arr sz (xs.map f))/\F=[id]
def nb(au n:Int)(aD:Test)(C:af)(a b:Int)(K:af)(agg col:Int)(D:af):af:=
 .agg [i64 au,i64 n,i64 aD.au,.bool aD.no,i64 aD.l.au,i64 aD.l.a,i64 aD.l.b,i64 aD.l.n,i64 aD.r.au,i64 aD.r.a,i64 aD.r.b,i64 aD.r.n,
  C,i64 a,i64 b,K,i64 agg,i64 col,D]
mutual
def lh(h:aG):aA->af->List Nat->Prop
 | .mk au n aD cells a b aq agg col ao,v,F=>∃C K D Fc Fk Fd,v=nb au n aD C a b K agg col D/\kh Cell.enc 4 h cells C Fc/\kh i64 1 h aq K Fk/\
   ((ao=[]/\D= .nil/\Fd=[])∨ ∃id vs Fs,D= .own id 0 ao.length/\h[id]?=some (.arr 19 vs)/\gJ h ao vs Fs/\Fd=id::Fs)/\F=Fc++(Fk++Fd)
def gJ(h:aG):List aA->List af->List Nat->Prop
 | [],vs,F=>vs=[]/\F=[]
 |p::ps,vs,F=>∃v fx F1 F2,vs=v::fx/\F=F1++F2/\lh h p v F1/\gJ h ps fx F2
end
def pN(h:aG)(ao:List aA)(D:af)(Fd:List Nat):Prop:=
 (ao=[]/\D= .nil/\Fd=[])∨ ∃id vs Fs,D= .own id 0 ao.length/\h[id]?=some (.arr 19 vs)/\gJ h ao vs Fs/\Fd=id::Fs
theorem lX{h:aG}{au n:Int}{aD:Test}{cells:List Cell}{a b:Int}{aq:List Int}{agg col:Int}{ao:List aA}{v:af}{F:List Nat}:
  lh h (.mk au n aD cells a b aq agg col ao) v F↔ ∃C K D Fc Fk Fd,v=nb au n aD C a b K agg col D/\kh Cell.enc 4 h cells C Fc/\kh i64 1 h aq K Fk/\pN h ao D Fd/\F=Fc++(Fk++Fd):=by
   simp only[lh,pN]
theorem DA{h:aG}: ∀{ps:List aA}{vs:List af}{F:List Nat},gJ h ps vs F->vs.length=ps.length
 | [],vs,F,hp=>by simp only[gJ]at hp;rw[hp.1];rfl
 |p::ps,vs,F,hp=>by
  simp only[gJ]at hp;obtain⟨v,fx,F1,F2,rfl,rfl,_,h2⟩:=hp;simp[DA h2]
theorem kh.frame{α:Type}{f:α->af}{sz:Nat}{h h':aG}{xs:List α}{v:af}{F:List Nat}(ho:kh f sz h xs v F)(hf: ∀id∈F,h'[id]?=h[id]?):kh f sz h' xs v F:=by
 rcases ho with ho|⟨id,h1,h2,rfl⟩
 ·exact .inl ho
 ·exact .inr ⟨id,h1,by rw[hf id (by simp)];exact h2,rfl⟩
theorem DB{h h':aG}: ∀(N:Nat),(∀(p:aA)(v:af)(F:List Nat),SizeOf.sizeOf p<=N->lh h p v F->(∀id∈F,h'[id]?=h[id]?)->lh h' p v F)/\
  ∀(ps:List aA)(vs:List af)(F:List Nat),SizeOf.sizeOf ps<=N->gJ h ps vs F->(∀id∈F,h'[id]?=h[id]?)->gJ h' ps vs F:=by
   intro N
   induction N with
   |zero=>
    refine⟨fun p v F hs=>?_,fun ps vs F hs hp _=>?_⟩
    ·cases p;simp at hs
    ·cases ps<;>simp at hs
   |succ N ih=>
    refine⟨fun p v F hs hp hf=>?_,fun ps vs F hs hp hf=>?_⟩
    ·obtain⟨au,n,aD,cells,a,b,aq,agg,col,ao⟩:=p;rw[lX]at hp⊢;obtain⟨C,K,D,Fc,Fk,Fd,rfl,h1,h2,h3,rfl⟩:=hp;refine⟨C,K,D,Fc,Fk,Fd,rfl,h1.frame fun id dm=>hf id (by simp[dm]),h2.frame fun id dm=>hf id (by simp[dm]),?_,rfl⟩;rcases h3 with h3|⟨id,vs,Fs,h4,h5,h6,rfl⟩
     ·exact .inl h3
     ·exact .inr ⟨id,vs,Fs,h4,by rw[hf id (by simp)];exact h5,ih.2 ao vs Fs (by simp at hs;omega) h6 fun id dm=>hf id (by simp[dm]),rfl⟩
    ·cases ps with
     |nil=>simp only[gJ]at hp⊢;exact hp
     |cons p ps=>
      simp only[gJ]at hp⊢;obtain⟨v,fx,F1,F2,rfl,rfl,h1,h2⟩:=hp;simp at hs;exact⟨v,fx,F1,F2,rfl,rfl,ih.1 p v F1 (by omega) h1 fun id dm=>hf id (by simp[dm]),ih.2 ps fx F2 (by omega) h2 fun id dm=>hf id (by simp[dm])⟩
theorem lh.frame{h h':aG}{p:aA}{v:af}{F:List Nat}(ho:lh h p v F)(hf: ∀id∈F,h'[id]?=h[id]?):lh h' p v F:=(DB _).1 p v F (aah _) ho hf
theorem gJ.frame{h h':aG}{ps:List aA}{vs:List af}{F:List Nat}(ho:gJ h ps vs F)(hf: ∀id∈F,h'[id]?=h[id]?):gJ h' ps vs F:=(DB _).2 ps vs F (aah _) ho hf
theorem pN.frame{h h':aG}{ps:List aA}{D:af}{F:List Nat}(ho:pN h ps D F)(hf: ∀id∈F,h'[id]?=h[id]?):pN h' ps D F:=by
 rcases ho with h3|⟨id,vs,Fs,h4,h5,h6,rfl⟩
 ·exact .inl h3
 ·exact .inr ⟨id,vs,Fs,h4,by rw[hf id (by simp)];exact h5,h6.frame fun id dm=>hf id (by simp[dm]),rfl⟩
theorem kh.lt{α:Type}{f:α->af}{sz:Nat}{h:aG}{xs:List α}{v:af}{F:List Nat}(ho:kh f sz h xs v F): ∀id∈F,id<h.length:=by
 rcases ho with⟨_,rfl,_⟩|⟨id,h1,h2,rfl⟩
 ·simp
 ·intro i hi;simp at hi;subst hi;exact ib h2
theorem QL{h:aG}: ∀(N:Nat),(∀(p:aA)(v:af)(F:List Nat),SizeOf.sizeOf p<=N->lh h p v F-> ∀id∈F,id<h.length)/\
  ∀(ps:List aA)(vs:List af)(F:List Nat),SizeOf.sizeOf ps<=N->gJ h ps vs F-> ∀id∈F,id<h.length:=by
   intro N
   induction N with
   |zero=>
    refine⟨fun p v F hs=>?_,fun ps vs F hs hp=>?_⟩
    ·cases p;simp at hs
    ·cases ps<;>simp at hs
   |succ N ih=>
    refine⟨fun p v F hs hp=>?_,fun ps vs F hs hp=>?_⟩
    ·obtain⟨au,n,aD,cells,a,b,aq,agg,col,ao⟩:=p;rw[lX]at hp;obtain⟨C,K,D,Fc,Fk,Fd,rfl,h1,h2,h3,rfl⟩:=hp;intro id dm;simp only[aaS]at dm;rcases dm with dm|dm|dm
     ·exact h1.lt id dm
     ·exact h2.lt id dm
     ·rcases h3 with⟨_,_,rfl⟩|⟨id',vs,Fs,h4,h5,h6,rfl⟩
      ·simp at dm
      ·rcases aaz.1 dm with rfl|dm
       ·exact ib h5
       ·exact ih.2 ao vs Fs (by simp at hs;omega) h6 id dm
    ·cases ps with
     |nil=>simp only[gJ]at hp;obtain⟨rfl,rfl⟩:=hp;simp
     |cons p ps=>
      simp only[gJ]at hp;obtain⟨v,fx,F1,F2,rfl,rfl,h1,h2⟩:=hp;simp at hs;intro id dm;rcases aaS.1 dm with dm|dm
      ·exact ih.1 p v F1 (by omega) h1 id dm
      ·exact ih.2 ps fx F2 (by omega) h2 id dm
theorem lh.lt{h:aG}{p:aA}{v:af}{F:List Nat}(ho:lh h p v F): ∀id∈F,id<h.length:=(QL _).1 p v F (aah _) ho
theorem gJ.lt{h:aG}{ps:List aA}{vs:List af}{F:List Nat}(ho:gJ h ps vs F): ∀id∈F,id<h.length:=(QL _).2 ps vs F (aah _) ho
theorem pN.lt{h:aG}{ps:List aA}{D:af}{F:List Nat}(ho:pN h ps D F): ∀id∈F,id<h.length:=by
 rcases ho with⟨_,_,rfl⟩|⟨id,vs,Fs,h4,h5,h6,rfl⟩
 ·simp
 ·intro i hi;rcases aaz.1 hi with rfl|hi
  ·exact ib h5
  ·exact h6.lt i hi
theorem NZ(h:aG)(n:Nat)(x:Int):cI h (n+1) (i64 x)=some (i64 x):=rfl
theorem KC(h:aG)(n:Nat)(x:Bool):cI h (n+1) (.bool x)=some (.bool x):=rfl
theorem od{h:aG}{n id len sz:Nat}{es xs:List af}(hi:h[id]?=some (.arr sz es))(hl:len=es.length)(hm:di (cI h n) es=some xs):cI h (n+1) (.own id 0 len)=some (.sl xs):=by
 subst hl;simp only[cI,hi,aaK,aah,if_true,List.drop_zero,aar,hm,aaL]
theorem kh.cI{α:Type}{f:α->af}{sz:Nat}{h:aG}{xs:List α}{v:af}{F:List Nat}{n:Nat}(hf: ∀x,Am.cI h (n+1) (f x)=some (f x))(ho:kh f sz h xs v F):Am.cI h (n+2) v=some (.sl (xs.map f)):=by
 rcases ho with⟨rfl,_,rfl|rfl⟩|⟨id,rfl,h2,_⟩
 ·rfl
 ·rfl
 ·exact od h2 (by simp) (EF _ fun x hx=>by obtain⟨y,_,rfl⟩:=aaO.1 hx;exact hf y)
theorem HS{h:aG}: ∀(N:Nat),(∀(p:aA)(v:af)(F:List Nat)(n:Nat),SizeOf.sizeOf p<=N->lh h p v F->2*p.sz+5<=n->Am.cI h n v=some p.enc)/\
  ∀(ps:List aA)(vs:List af)(F:List Nat)(n:Nat),SizeOf.sizeOf ps<=N->gJ h ps vs F->2*aA.wu ps+5<=n->di (Am.cI h n) vs=some (aA.dv ps):=by
   intro N
   induction N with
   |zero=>
    refine⟨fun p v F n hs=>?_,fun ps vs F n hs hp=>?_⟩
    ·cases p;simp at hs
    ·cases ps<;>simp at hs
   |succ N ih=>
    refine⟨fun p v F n hs hp hn=>?_,fun ps vs F n hs hp hn=>?_⟩
    ·obtain⟨au,m,aD,cells,a,b,aq,agg,col,ao⟩:=p;rw[lX]at hp;obtain⟨C,K,D,Fc,Fk,Fd,rfl,h1,h2,h3,rfl⟩:=hp;simp only[aA.sz]at hn;obtain⟨n,rfl⟩: ∃k,n=k+5:=⟨n-5,by omega⟩;have e1:Am.cI h (n+4) C=some (.sl (cells.map Cell.enc)):=kh.cI (n:=n+2) (fun x=>rfl) h1;have e2:Am.cI h (n+4) K=some (.sl (aq.map i64)):=kh.cI (n:=n+2) (fun x=>rfl) h2
     have e3:Am.cI h (n+4) D=some (.sl (aA.dv ao)):=by
      rcases h3 with⟨rfl,rfl,_⟩|⟨id,vs,Fs,rfl,h5,h6,_⟩
      ·rfl
      ·refine od h5 (by rw[DA h6]) ?_
       cases ao with
       |nil=>simp only[gJ]at h6;rw[h6.1];rfl
       |cons q qs=>
        refine ih.2 _ vs Fs (n+3) (by simp at hs⊢;omega) h6 ?_;simp at hn;omega
     show(di (Am.cI h (n+4)) _).map af.agg=_;simp only[di,e1,e2,e3,NZ,KC,aaL,aA.enc]
    ·cases ps with
     |nil=>simp only[gJ]at hp;rw[hp.1];rfl
     |cons p ps=>
      simp only[gJ]at hp;obtain⟨v,fx,F1,F2,rfl,rfl,h1,h2⟩:=hp;simp at hs;simp only[aA.wu]at hn;simp only[di,ih.1 p v F1 n (by omega) h1 (by omega),ih.2 ps fx F2 n (by omega) h2 (by omega),aA.dv]
theorem lh.snap{h:aG}{p:aA}{v:af}{F:List Nat}(ho:lh h p v F)(gu:p.small):Am.snap h v=some p.enc:=(HS _).1 p v F _ (aah _) ho (by unfold aA.small at gu;omega)
end Go.Proofs.YtfepbikckfehlaaGreat
set_option maxHeartbeats 4000000
namespace Go.Proofs.YtfepbikckfehlaaGreat
open Go Go.Am
def wC(c:af):Bool:=match c with
 | .agg ds=>ds.all af.iq
 |c=>c.iq
theorem sX{n sz:Nat}{es:List af}(h: ∀c∈es,wC c=true):dH.keep n (.arr sz es)= .arr sz (es.map (jj n)):=by
 have hk:(dH.arr sz es).keeps=true:=aaj.2 h;simp only[dH.keep,hk]
theorem oS{h h1:aG}{id:Nat}{o:dH}(hi:h1[id]?=some o):(h++h1.map (dH.keep h.length))[id+h.length]?=some (dH.keep h.length o):=by
 rw[aaQ (by omega),Nat.add_sub_cancel,aba,hi];rfl
theorem kh.iq{α:Type}{f:α->af}{sz:Nat}{h:aG}{xs:List α}{v:af}{F:List Nat}(ho:kh f sz h xs v F):v.iq=true:=by
 rcases ho with⟨_,_,rfl|rfl⟩|⟨id,rfl,_,_⟩<;>rfl
theorem kh.shift{α:Type}{f:α->af}{sz:Nat}{h h1:aG}{xs:List α}{v:af}{F:List Nat}(hk: ∀x,wC (f x)=true)(hs: ∀n x,jj n (f x)=f x)(ho:kh f sz h1 xs v F):
  kh f sz (h++h1.map (dH.keep h.length)) xs (nB h.length v) (F.map (· +h.length)):=by
   rcases ho with⟨rfl,rfl,rfl|rfl⟩|⟨id,rfl,h2,rfl⟩
   ·exact .inl ⟨rfl,rfl,.inl rfl⟩
   ·exact .inl ⟨rfl,rfl,.inr rfl⟩
   ·refine .inr ⟨id+h.length,rfl,?_,rfl⟩;rw[oS h2,sX (fun c hc=>by obtain⟨x,_,rfl⟩:=aaO.1 hc;exact hk x),List.map_map]
    congr 2
    exact List.map_congr_left fun x _=>hs _ x
theorem pN.iq{h:aG}{ps:List aA}{D:af}{F:List Nat}(ho:pN h ps D F):D.iq=true:=by
 rcases ho with⟨_,rfl,_⟩|⟨id,vs,Fs,rfl,_⟩<;>rfl
theorem xV{h h1:aG}: ∀(N:Nat),(∀(p:aA)(v:af)(F:List Nat),SizeOf.sizeOf p<=N->lh h1 p v F->lh (h++h1.map (dH.keep h.length)) p (jj h.length v) (F.map (· +h.length))/\wC v=true/\ ∃cs,v= .agg cs)/\
  ∀(ps:List aA)(vs:List af)(F:List Nat),SizeOf.sizeOf ps<=N->gJ h1 ps vs F->gJ (h++h1.map (dH.keep h.length)) ps (vs.map (jj h.length)) (F.map (· +h.length))/\ ∀v∈vs,wC v=true:=by
   intro N
   induction N with
   |zero=>
    refine⟨fun p v F hs=>?_,fun ps vs F hs hp=>?_⟩
    ·cases p;simp at hs
    ·cases ps<;>simp at hs
   |succ N ih=>
    refine⟨fun p v F hs hp=>?_,fun ps vs F hs hp=>?_⟩
    ·obtain⟨au,m,aD,cells,a,b,aq,agg,col,ao⟩:=p;rw[lX]at hp⊢;obtain⟨C,K,D,Fc,Fk,Fd,rfl,h1,h2,h3,rfl⟩:=hp;have c1:=h1.iq;have c2:=h2.iq;have c3:=pN.iq h3;refine⟨⟨nB _ C,nB _ K,nB _ D,Fc.map (· +h.length),Fk.map (· +h.length),Fd.map (· +h.length),rfl,h1.shift (fun _=>rfl) fun _ _=>rfl,h2.shift (fun _=>rfl) fun _ _=>rfl,?_,by simp⟩,?_,_,rfl⟩
     ·rcases h3 with⟨rfl,rfl,rfl⟩|⟨id,vs,Fs,rfl,h5,h6,rfl⟩
      ·exact .inl ⟨rfl,rfl,rfl⟩
      ·obtain⟨g1,g2⟩:=ih.2 ao vs Fs (by simp at hs;omega) h6;exact .inr ⟨id+h.length,_,_,rfl,by rw[oS h5,sX g2],g1,by simp⟩
     ·simp only[wC,nb,abi,c1,c2,c3,List.all_nil,Bool.and_true,aay];rfl
    ·cases ps with
     |nil=>simp only[gJ]at hp⊢;obtain⟨rfl,rfl⟩:=hp;exact⟨⟨rfl,rfl⟩,by simp⟩
     |cons p ps=>
      simp only[gJ]at hp⊢;obtain⟨v,fx,F1,F2,rfl,rfl,h1,h2⟩:=hp;simp at hs;obtain⟨g1,g2,_⟩:=ih.1 p v F1 (by omega) h1;obtain⟨g3,g4⟩:=ih.2 ps fx F2 (by omega) h2;refine⟨⟨_,_,_,_,rfl,by simp,g1,g3⟩,fun w hw=>?_⟩;rcases aaz.1 hw with rfl|hw
      ·exact g2
      ·exact g4 w hw
theorem lA{F:List Nat}(n:Nat)(h:F.Nodup):(F.map (· +n)).Nodup:=by
 induction F with
 |nil=>simp
 |cons x xs ih=>
  simp only[aao,List.nodup_cons]at h⊢;refine⟨fun hm=>?_,ih h.2⟩;obtain⟨y,hy,he⟩:=aaO.1 hm;have:y=x:=by simpa using he
  subst this;exact h.1 hy
def TJ(pr:bW)(f:FuncId)(args:List af)(p:aA):Prop:=∃v h1 F,call (dZ pr) f args []=some (.ret v h1)/\lh h1 p v F/\F.Nodup
def N0{α:Type}(g:α->af)(sz:Nat)(pr:bW)(f:FuncId)(args:List af)(xs:List α):Prop:=∃v h1 F,call (dZ pr) f args []=some (.ret v h1)/\kh g sz h1 xs v F/\F.Nodup
def YJ(pr:bW)(f:FuncId)(args:List af)(ps:List aA):Prop:=∃v h1 F,call (dZ pr) f args []=some (.ret v h1)/\pN h1 ps v F/\F.Nodup
theorem TJ.at{pr:bW}{f:FuncId}{args dD:List af}{p:aA}{h:aG}(hr:TJ pr f dD p)(hM:gI f=Am.Mode.N)(hs:dc h args=some dD):
  ∃v hh F,cj (dZ pr) (call (dZ pr)) f args h=some (.ret v hh)/\h <+: hh/\lh hh p v F/\F.Nodup/\ ∀id∈F,h.length<=id:=by
   obtain⟨v,h1,F,hc,ho,hn⟩:=hr;obtain⟨g1,g2,cs,rfl⟩:=(xV (h:=h) _).1 p v F (aah _) ho;have hm:(dZ pr).M f= .N:=hM;refine⟨q8 h.length (.agg cs),h++h1.map (dH.keep h.length),F.map (· +h.length),?_,List.prefix_append _ _,g1,lA _ hn,fun id dm=>?_⟩
   ·unfold cj;have jM:(af.agg cs).clean=true:=g2;simp only[hm,hs,hc,jM,if_true]
   ·obtain⟨y,_,rfl⟩:=aaO.1 dm;omega
theorem y5{n:Nat}{v:af}(h:v.iq=true):q8 n v=nB n v:=by cases v<;>first|rfl|(simp[af.iq,af.isScalar]at h)
theorem uW{v:af}(h:v.iq=true):v.clean=true:=by cases v<;>first|exact h|(simp[af.iq,af.isScalar]at h)
theorem N0.at{α:Type}{g:α->af}{sz:Nat}{pr:bW}{f:FuncId}{args dD:List af}{xs:List α}{h:aG}(hr:N0 g sz pr f dD xs)(hM:gI f=Am.Mode.N)(hs:dc h args=some dD)(hk: ∀x,wC (g x)=true)(tN: ∀n x,jj n (g x)=g x):
  ∃v hh F,cj (dZ pr) (call (dZ pr)) f args h=some (.ret v hh)/\h <+: hh/\kh g sz hh xs v F/\F.Nodup/\ ∀id∈F,h.length<=id:=by
   obtain⟨v,h1,F,hc,ho,hn⟩:=hr;have hm:(dZ pr).M f= .N:=hM;have DC:=ho.iq;refine⟨q8 h.length v,h++h1.map (dH.keep h.length),F.map (· +h.length),?_,List.prefix_append _ _,by rw[y5 DC];exact ho.shift hk tN,lA _ hn,fun id dm=>?_⟩
   ·unfold cj;simp only[hm,hs,hc,uW DC,if_true]
   ·obtain⟨y,_,rfl⟩:=aaO.1 dm;omega
theorem YJ.at{pr:bW}{f:FuncId}{args dD:List af}{ps:List aA}{h:aG}(hr:YJ pr f dD ps)(hM:gI f=Am.Mode.N)(hs:dc h args=some dD):
  ∃v hh F,cj (dZ pr) (call (dZ pr)) f args h=some (.ret v hh)/\h <+: hh/\pN hh ps v F/\F.Nodup/\ ∀id∈F,h.length<=id:=by
   obtain⟨v,h1,F,hc,ho,hn⟩:=hr;have hm:(dZ pr).M f= .N:=hM;have DC:=pN.iq ho;refine⟨q8 h.length v,h++h1.map (dH.keep h.length),F.map (· +h.length),?_,List.prefix_append _ _,?_,lA _ hn,fun id dm=>?_⟩
   ·unfold cj;simp only[hm,hs,hc,uW DC,if_true]
   ·rw[y5 DC];rcases ho with⟨rfl,rfl,rfl⟩|⟨id,vs,Fs,rfl,h5,h6,rfl⟩
    ·exact .inl ⟨rfl,rfl,rfl⟩
    ·obtain⟨g1,g2⟩:=(xV (h:=h) _).2 ps vs Fs (aah _) h6;exact .inr ⟨id+h.length,_,_,rfl,by rw[oS h5,sX g2],g1,by simp⟩
   ·obtain⟨y,_,rfl⟩:=aaO.1 dm;omega
end Go.Proofs.YtfepbikckfehlaaGreat
set_option maxHeartbeats 4000000
namespace Go.Am
open Go
theorem eu{P:Program}{fn:Func}{st:St}{d t k:Nat}{x v:af}(hr:fn.results.toList=[.cell d t])(ht:st.tm d= .ptr k 0 0)(hk:st.hp[k]?=some (.box x))(hv:fZ P t x 0=some v):qx P fn (some (.ret st))=some (.ret v st.hp):=by
 have h1:kM P st (.cell d t)=some v:=by
  simp only[kM,ht,ku,hk,if_true,hv]
 simp only[qx,hr,di,h1,Option.map_some];rfl
structure Chunk where
 F:List Nat
 P:aG->Prop
 loc: ∀h h',P h->(∀id∈F,h'[id]?=h[id]?)->P h'
 lt: ∀h,P h-> ∀id∈F,id<h.length
def Chunk.row(k:Nat)(o:dH):Chunk:=⟨[k],fun h=>h[k]?=some o,fun h h' hp hf=>by rw[hf k (by simp)];exact hp,fun h hp id dm=>by simp at dm;subst dm;exact ib hp⟩
structure aj(h:aG)(L:List Chunk):Prop where
 get': ∀(i:Nat) c,L[i]?=some c->c.P h/\c.F.Nodup
 apart: ∀(i j:Nat) c d,i≠j->L[i]?=some c->L[j]?=some d-> ∀id∈c.F,id∉d.F
theorem aj.nil(h:aG):aj h []:=⟨fun i c hi=>by simp at hi,fun i j c d _ hi=>by simp at hi⟩
section
variable{h h':aG}{L:List Chunk}
theorem aj.get(s:aj h L)(i:Nat){c:Chunk}(hi:L[i]?=some c):c.P h:=(s.get' i c hi).1
theorem aj.row(s:aj h L)(i:Nat){k:Nat}{o:dH}(hi:L[i]?=some (.row k o)):h[k]?=some o:=s.get i hi
theorem aj.lt(s:aj h L)(i:Nat){c:Chunk}(hi:L[i]?=some c): ∀id∈c.F,id<h.length:=c.lt h (s.get i hi)
theorem aj.cons(s:aj h L){c:Chunk}(hg: ∀id,id<h.length->h'[id]?=h[id]?)(hc:c.P h')(hn:c.F.Nodup)(hd: ∀id∈c.F,h.length<=id):aj h' (c::L):=by
 have old: ∀(i:Nat) d,L[i]?=some d->d.P h':=fun i d hi=>d.loc h h' (s.get i hi) fun id dm=>hg id (s.lt i hi id dm);refine⟨fun i d hi=>?_,fun i j d e yP hi hj id dm=>?_⟩
 ·cases i with
  |zero=>simp at hi;subst hi;exact⟨hc,hn⟩
  |succ i=>exact⟨old i d (by simpa using hi),(s.get' i d (by simpa using hi)).2⟩
 ·cases i with
  |zero=>
   simp at hi;subst hi
   cases j with
   |zero=>exact absurd rfl yP
   |succ j=>intro hm;have:=s.lt j (by simpa using hj) id hm;have:=hd id dm;omega
  |succ i=>
   cases j with
   |zero=>simp at hj;subst hj;intro hm;have:=s.lt i (by simpa using hi) id dm;have:=hd id hm;omega
   |succ j=>exact s.apart i j d e (by omega) (by simpa using hi) (by simpa using hj) id dm
theorem aj.alloc(s:aj h L){k:Nat}{o:dH}(hk:k=h.length)(e:h'=h++[o]):aj h' (.row k o::L):=
 s.cons (fun id dm=>by subst e;exact List.getElem?_append_left dm) (gD hk e) (by simp[Chunk.row]) (by intro id dm;simp[Chunk.row]at dm;omega)
theorem aj.more(s:aj h L){c:Chunk}(hp:h <+: h')(hc:c.P h')(hn:c.F.Nodup)(hd: ∀id∈c.F,h.length<=id):aj h' (c::L):=
 s.cons (fun id dm=>by obtain⟨t,rfl⟩:=hp;exact List.getElem?_append_left dm) hc hn hd
theorem aj.grow(s:aj h L)(hg: ∀id,id<h.length->h'[id]?=h[id]?):aj h' L:=
 ⟨fun i d hi=>⟨d.loc h h' (s.get i hi) fun id dm=>hg id (s.lt i hi id dm),(s.get' i d hi).2⟩,s.apart⟩
theorem aj.qo(s:aj h L)(i:Nat){c c':Chunk}(hi:L[i]?=some c)(hg: ∀id,id<h.length->id∉c.F->h'[id]?=h[id]?)(hc:c'.P h')(hn:c'.F.Nodup)(hd: ∀id∈c'.F,id∈c.F∨h.length<=id):aj h' (L.set i c'):=by
 have nK:i<L.length:=(List.getElem?_eq_some_iff.1 hi).1;have other: ∀(j:Nat) d,j≠i->L[j]?=some d->d.P h':=fun j d hj JA=>d.loc h h' (s.get j JA) fun id dm=>hg id (s.lt j JA id dm) (s.apart j i d c hj JA hi id dm)
 have KD: ∀(j:Nat) d,(L.set i c')[j]?=some d->(j=i/\d=c')∨(j≠i/\L[j]?=some d):=by
  intro j d hj
  by_cases e:i=j
  ·subst e;rw[List.getElem?_set_self nK]at hj;cases hj;exact .inl ⟨rfl,rfl⟩
  ·rw[List.getElem?_set_ne e]at hj;exact .inr ⟨fun h=>e h.symm,hj⟩
 have QM: ∀(j:Nat) d,j≠i->L[j]?=some d-> ∀id∈c'.F,id∉d.F:=by
  intro j d hj hdj id dm hm;rcases hd id dm with h1|h1
  ·exact s.apart i j c d (fun e=>hj e.symm) hi hdj id h1 hm
  ·have:=s.lt j hdj id hm;omega
 refine⟨fun j d hj=>?_,fun j k d e Pj hj hk id dm hm=>?_⟩
 ·rcases KD j d hj with⟨_,rfl⟩|⟨h1,h2⟩
  ·exact⟨hc,hn⟩
  ·exact⟨other j d h1 h2,(s.get' j d h2).2⟩
 ·rcases KD j d hj with⟨rfl,rfl⟩|⟨h1,h2⟩<;>rcases KD k e hk with⟨rfl,rfl⟩|⟨h3,h4⟩
  ·exact Pj rfl
  ·exact QM k e h3 h4 id dm hm
  ·exact QM j d h1 h2 id hm dm
  ·exact s.apart j k d e Pj h2 h4 id dm hm
theorem aj.set(s:aj h L)(i:Nat){k:Nat}{o o':dH}(hi:L[i]?=some (.row k o))(e:h'=h.set k o'):aj h' (L.set i (.row k o')):=
 s.qo i hi (fun id _ dm=>by subst e;exact List.getElem?_set_ne (fun e=>dm (by simp[Chunk.row,e]))) (gQ e (s.row i hi)) (by simp[Chunk.row]) (fun id dm=>.inl dm)
theorem aj.drop(s:aj h L)(i:Nat):aj h (L.eraseIdx i):=by
 have key: ∀(j:Nat) d,(L.eraseIdx i)[j]?=some d->L[if j<i then j else j+1]?=some d:=by
  intro j d hj;rw[List.getElem?_eraseIdx]at hj;split
  ·rename_i hl;rw[if_pos hl]at hj;exact hj
  ·rename_i hl;rw[if_neg hl]at hj;exact hj
 refine⟨fun j d hj=>s.get' _ d (key j d hj),fun j k d e Pj hj hk=>s.apart _ _ d e ?_ (key j d hj) (key k e hk)⟩;split<;>split<;>omega
theorem aj.move(s:aj h L)(i:Nat){k k2:Nat}{o o':dH}(hi:L[i]?=some (.row k o))(hk:k2=h.length)(e:h'=h.set k .dead++[o']):aj h' (.row k2 o'::L.eraseIdx i):=by
 have s1:=(s.set i (h':=h.set k .dead) (o':=.dead) hi rfl).drop i
 have:(L.set i (.row k .dead)).eraseIdx i=L.eraseIdx i:=by
  apply List.ext_getElem?;intro j;rw[List.getElem?_eraseIdx,List.getElem?_eraseIdx];split
  ·rw[List.getElem?_set_ne (by omega)]
  ·rw[List.getElem?_set_ne (by omega)]
 rw[this]at s1;exact s1.alloc (by simp[hk]) e
theorem aj.front(s:aj h L)(i:Nat){c:Chunk}(hi:L[i]?=some c):aj h (c::L.eraseIdx i):=by
 have key: ∀(j:Nat) d,(L.eraseIdx i)[j]?=some d->L[if j<i then j else j+1]?=some d:=by
  intro j d hj;rw[List.getElem?_eraseIdx]at hj;split
  ·rename_i hl;rw[if_pos hl]at hj;exact hj
  ·rename_i hl;rw[if_neg hl]at hj;exact hj
 refine⟨fun j d hj=>?_,fun j k d e Pj hj hk=>?_⟩
 ·cases j with
  |zero=>simp at hj;subst hj;exact s.get' i _ hi
  |succ j=>exact s.get' _ d (key j d (by simpa using hj))
 ·cases j with
  |zero=>
   simp at hj;subst hj
   cases k with
   |zero=>exact absurd rfl Pj
   |succ k=>exact s.apart i _ _ e (by split<;>omega) hi (key k e (by simpa using hk))
  |succ j=>
   cases k with
   |zero=>simp at hk;subst hk;exact s.apart _ i d _ (by split<;>omega) (key j d (by simpa using hj)) hi
   |succ k=>exact s.apart _ _ d e (by split<;>split<;>omega) (key j d (by simpa using hj)) (key k e (by simpa using hk))
theorem QN{h:aG}{id:Nat}{o:dH}(e:h[id]?=some o):h.set id o=h:=by
 apply List.ext_getElem?;intro j
 by_cases hj:id=j
 ·subst hj;rw[List.getElem?_set_self (ib e),e]
 ·rw[List.getElem?_set_ne hj]
theorem oU{sz:Nat}{ys:List af}{K:af->aG->Prop}(s:aj h L)(hy:ys≠[])(hl:ys.length<=bB)(hk: ∀k h',aj h' (.row k (.arr sz ys)::L)->K (.own k 0 ys.length) h'):Kk h sz .nil ys K:=
 .inr ⟨hy,hl,fun k h' e1 e2=>hk k h' (s.alloc e1 e2)⟩
end
theorem aj.q1{h:aG}{L:List Chunk}{a0 c:Chunk}(S:aj h (a0::c::L)):aj h (c::a0::L):=S.front 1 rfl
theorem aj.q2{h:aG}{L:List Chunk}{a0 a1 c:Chunk}(S:aj h (a0::a1::c::L)):aj h (c::a0::a1::L):=S.front 2 rfl
theorem aj.q3{h:aG}{L:List Chunk}{a0 a1 a2 c:Chunk}(S:aj h (a0::a1::a2::c::L)):aj h (c::a0::a1::a2::L):=S.front 3 rfl
theorem aj.q4{h:aG}{L:List Chunk}{a0 a1 a2 a3 c:Chunk}(S:aj h (a0::a1::a2::a3::c::L)):aj h (c::a0::a1::a2::a3::L):=S.front 4 rfl
theorem aj.q5{h:aG}{L:List Chunk}{a0 a1 a2 a3 a4 c:Chunk}(S:aj h (a0::a1::a2::a3::a4::c::L)):aj h (c::a0::a1::a2::a3::a4::L):=S.front 5 rfl
theorem aj.q6{h:aG}{L:List Chunk}{a0 a1 a2 a3 a4 a5 c:Chunk}(S:aj h (a0::a1::a2::a3::a4::a5::c::L)):aj h (c::a0::a1::a2::a3::a4::a5::L):=S.front 6 rfl
theorem aj.q7{h:aG}{L:List Chunk}{a0 a1 a2 a3 a4 a5 a6 c:Chunk}(S:aj h (a0::a1::a2::a3::a4::a5::a6::c::L)):aj h (c::a0::a1::a2::a3::a4::a5::a6::L):=S.front 7 rfl
theorem aj.q9{h:aG}{L:List Chunk}{a0 a1 a2 a3 a4 a5 a6 a7 a8 c:Chunk}(S:aj h (a0::a1::a2::a3::a4::a5::a6::a7::a8::c::L)):aj h (c::a0::a1::a2::a3::a4::a5::a6::a7::a8::L):=S.front 9 rfl
theorem aj.w0{h h':aG}{L:List Chunk}{k:Nat}{o:dH}{α:Type}{f:α->dH}{v:α}(S:aj h (.row k o::L))(e:h'=h.set k (f v)):aj h' (.row k (f v)::L):=S.set 0 rfl e
theorem aj.w1{h h':aG}{L:List Chunk}{a0:Chunk}{k:Nat}{o:dH}{α:Type}{f:α->dH}{v:α}(S:aj h (a0::.row k o::L))(e:h'=h.set k (f v)):aj h' (a0::.row k (f v)::L):=S.set 1 rfl e
theorem aj.w2{h h':aG}{L:List Chunk}{a0 a1:Chunk}{k:Nat}{o:dH}{α:Type}{f:α->dH}{v:α}(S:aj h (a0::a1::.row k o::L))(e:h'=h.set k (f v)):aj h' (a0::a1::.row k (f v)::L):=S.set 2 rfl e
theorem aj.w3{h h':aG}{L:List Chunk}{a0 a1 a2:Chunk}{k:Nat}{o:dH}{α:Type}{f:α->dH}{v:α}(S:aj h (a0::a1::a2::.row k o::L))(e:h'=h.set k (f v)):aj h' (a0::a1::a2::.row k (f v)::L):=S.set 3 rfl e
theorem aj.w4{h h':aG}{L:List Chunk}{a0 a1 a2 a3:Chunk}{k:Nat}{o:dH}{α:Type}{f:α->dH}{v:α}(S:aj h (a0::a1::a2::a3::.row k o::L))(e:h'=h.set k (f v)):aj h' (a0::a1::a2::a3::.row k (f v)::L):=S.set 4 rfl e
theorem aj.w5{h h':aG}{L:List Chunk}{a0 a1 a2 a3 a4:Chunk}{k:Nat}{o:dH}{α:Type}{f:α->dH}{v:α}(S:aj h (a0::a1::a2::a3::a4::.row k o::L))(e:h'=h.set k (f v)):aj h' (a0::a1::a2::a3::a4::.row k (f v)::L):=S.set 5 rfl e
theorem aj.w6{h h':aG}{L:List Chunk}{a0 a1 a2 a3 a4 a5:Chunk}{k:Nat}{o:dH}{α:Type}{f:α->dH}{v:α}(S:aj h (a0::a1::a2::a3::a4::a5::.row k o::L))(e:h'=h.set k (f v)):aj h' (a0::a1::a2::a3::a4::a5::.row k (f v)::L):=S.set 6 rfl e
theorem aj.w7{h h':aG}{L:List Chunk}{a0 a1 a2 a3 a4 a5 a6:Chunk}{k:Nat}{o:dH}{α:Type}{f:α->dH}{v:α}(S:aj h (a0::a1::a2::a3::a4::a5::a6::.row k o::L))(e:h'=h.set k (f v)):aj h' (a0::a1::a2::a3::a4::a5::a6::.row k (f v)::L):=S.set 7 rfl e
theorem aj.w10{h h':aG}{L:List Chunk}{a0 a1 a2 a3 a4 a5 a6 a7 a8 a9:Chunk}{k:Nat}{o:dH}{α:Type}{f:α->dH}{v:α}(S:aj h (a0::a1::a2::a3::a4::a5::a6::a7::a8::a9::.row k o::L))(e:h'=h.set k (f v)):aj h' (a0::a1::a2::a3::a4::a5::a6::a7::a8::a9::.row k (f v)::L):=S.set 10 rfl e
theorem aj.w11{h h':aG}{L:List Chunk}{a0 a1 a2 a3 a4 a5 a6 a7 a8 a9 YK:Chunk}{k:Nat}{o:dH}{α:Type}{f:α->dH}{v:α}(S:aj h (a0::a1::a2::a3::a4::a5::a6::a7::a8::a9::YK::.row k o::L))(e:h'=h.set k (f v)):aj h' (a0::a1::a2::a3::a4::a5::a6::a7::a8::a9::YK::.row k (f v)::L):=S.set 11 rfl e
theorem aj.w13{h h':aG}{L:List Chunk}{a0 a1 a2 a3 a4 a5 a6 a7 a8 a9 YK a11 a12:Chunk}{k:Nat}{o:dH}{α:Type}{f:α->dH}{v:α}(S:aj h (a0::a1::a2::a3::a4::a5::a6::a7::a8::a9::YK::a11::a12::.row k o::L))(e:h'=h.set k (f v)):aj h' (a0::a1::a2::a3::a4::a5::a6::a7::a8::a9::YK::a11::a12::.row k (f v)::L):=S.set 13 rfl e
theorem aC{h:aG}{k:Nat}{x:af}{P:af->Prop}{B:Prop}(e:h[k]?=some (.box x))(hP:P x):(∃y,h[k]?=some (.box y)/\0=0/\P y)∨B:=.inl ⟨x,e,rfl,hP⟩
end Go.Am
namespace Go.Proofs.YtfepbikckfehlaaGreat
open Go Go.Am
def _root_.Go.Am.Chunk.ez(p:aA)(v:af)(F:List Nat):Chunk:=⟨F,fun h=>lh h p v F,fun h h' hp hf=>lh.frame hp hf,fun h hp=>lh.lt hp⟩
def _root_.Go.Am.Chunk.ade(ps:List aA)(vs:List af)(F:List Nat):Chunk:=⟨F,fun h=>gJ h ps vs F,fun h h' hp hf=>gJ.frame hp hf,fun h hp=>gJ.lt hp⟩
def _root_.Go.Am.Chunk.ao(ps:List aA)(D:af)(F:List Nat):Chunk:=⟨F,fun h=>pN h ps D F,fun h h' hp hf=>pN.frame hp hf,fun h hp=>pN.lt hp⟩
def _root_.Go.Am.Chunk.list{α:Type}(f:α->af)(sz:Nat)(xs:List α)(v:af)(F:List Nat):Chunk:=⟨F,fun h=>kh f sz h xs v F,fun h h' hp hf=>kh.frame hp hf,fun h hp=>kh.lt hp⟩
end Go.Proofs.YtfepbikckfehlaaGreat

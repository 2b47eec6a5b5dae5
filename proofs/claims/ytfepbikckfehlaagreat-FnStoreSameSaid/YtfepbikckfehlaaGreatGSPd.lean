/- The walk over a plan's parts. -/
import Derived.Test.YtfepbikckfehlaaGreatGH15
import Derived.Test.YtfepbikckfehlaaGreatGSBmT
set_option linter.unusedVariables false
set_option linter.unusedSimpArgs false
set_option maxHeartbeats 4000000
namespace Go.Proofs.YtfepbikckfehlaaGreat
open Go Go.Am
inductive WR(σ:Type) where
 |go (m:Nat) (s:σ)
 |Nd (s:σ)
 |stop (s:σ)
mutual
def wk{σ:Type}(step:σ->Nat->aA->σ×Bool)(deep:Nat):aA->Nat->σ->WR σ
 | .mk au n aD cells a b aq agg col ao,m,s=>match step s deep (.mk au n aD cells a b aq agg col ao)with
  |(s,false)=>.stop s
  |(s,true)=>if 10<m+1∨6<=deep then .Nd s else HL step (deep+1) ao (m+1) s
def HL{σ:Type}(step:σ->Nat->aA->σ×Bool)(deep:Nat):List aA->Nat->σ->WR σ
 | [],m,s=>.go m s
 |p::ps,m,s=>match wk step deep p m s with
  | .go m s=>HL step deep ps m s
  |r=>r
end
def HM:LS:=⟨.ready,none⟩
def Fr(C:List Nat)(h:aG)(C':List Nat)(h':aG):Prop:=h.length<=h'.length/\(∀id,id<h.length->id∉C->h'[id]?=h[id]?)/\ ∀id∈C',id∈C∨h.length<=id
def A9(km:Nat)(C:List Nat)(h:aG)(C':List Nat)(h':aG):Prop:=h.length<=h'.length/\(∀id,id<h.length->id∉C->id≠km->h'[id]?=h[id]?)/\ ∀id∈C',id∈C∨h.length<=id
theorem A9.trans{km:Nat}{C C1 C2:List Nat}{h h1 h2:aG}(a:A9 km C h C1 h1)(b:A9 km C1 h1 C2 h2):A9 km C h C2 h2:=by
 refine⟨aa3 a.1 b.1,fun id dm hn hk=>?_,fun id dm=>?_⟩
 ·refine(b.2.1 id (abc dm a.1) (fun hc=>?_) hk).trans (a.2.1 id dm hn hk);rcases a.2.2 id hc with h|h
  ·exact hn h
  ·omega
 ·rcases b.2.2 id dm with h|h
  ·exact a.2.2 id h
  ·exact .inr (aa3 a.1 h)
theorem Fr.toK{km:Nat}{C C1:List Nat}{h h1:aG}(a:Fr C h C1 h1):A9 km C h C1 h1:=⟨a.1,fun id h1 h2 _=>a.2.1 id h1 h2,a.2.2⟩
structure Consumer(c:Lp)(σ:Type) where
 J:σ->List Nat->aG->Prop
 Jx:σ->aG->LS->Prop
 step:σ->Nat->aA->σ×Bool
 lt: ∀s C h,J s C h-> ∀id∈C,id<h.length
 Tz: ∀s C h h',J s C h->h.length<=h'.length->(∀id∈C,h'[id]?=h[id]?)->J s C h'
 QF: ∀s C h(deep:Nat) p,J s C h->oR cf c [i64 deep,p.enc] h HM fun v h' g'=>
  (∃s',step s deep p=(s',true)/\v= .bool true/\g'=HM/\ ∃C',J s' C' h'/\Fr C h C' h')∨(∃s',step s deep p=(s',false)/\v= .bool false/\Jx s' h' g')
def Dz{c:Lp}{σ:Type}(k:Consumer c σ)(C:List Nat)(h:aG)(km:Nat)(r:WR σ)(v:af)(h':aG)(g':LS):Prop:=match r with
 | .go m' s'=>v= .bool true/\g'=HM/\m'<=10/\ ∃C',k.J s' C' h'/\h'[km]?=some (.box (i64 m'))/\A9 km C h C' h'
 | .Nd s'=>v= .bool false/\g'=HM/\ ∃C',k.J s' C' h'
 | .stop s'=>v= .bool false/\k.Jx s' h' g'
def V7(f:FuncId):Bool:=f==100
theorem A9.alloc{km:Nat}{C:List Nat}{h h':aG}{o:dH}(e:h'=h++[o]):A9 km C h C h':=by
 subst e;exact⟨by simp,fun id dm _ _=>aaN dm,fun id dm=>.inl dm⟩
theorem A9.aa9{km:Nat}{C:List Nat}{h h':aG}{o:dH}(e:h'=h.set km o):A9 km C h C h':=by
 subst e;exact⟨by simp,fun id _ _ hk=>abJ (fun e=>hk e.symm),fun id dm=>.inl dm⟩
theorem A9.refl(km:Nat)(C:List Nat)(h:aG):A9 km C h C h:=⟨aah _,fun _ _ _ _=>rfl,fun _ h=>.inl h⟩
theorem A9.QG{km:Nat}{C C':List Nat}{h h':aG}(f:A9 km C h C' h'){i:Nat}(hi:i<h.length)(hn:i∉C):i∉C':=fun hc=>(f.2.2 i hc).elim hn (by omega)
theorem A9.get{km:Nat}{C C':List Nat}{h h':aG}(f:A9 km C h C' h'){i:Nat}{x:dH}(hi:h[i]?=some x)(hn:i∉C)(hk:i≠km):h'[i]?=some x:=(f.2.1 i (ib hi) hn hk).trans hi
theorem YE{σ:Type}(step:σ->Nat->aA->σ×Bool)(deep:Nat)(t:aA)(m:Nat)(s:σ):wk step deep t m s=match step s deep t with
  |(s,false)=>.stop s
  |(s,true)=>if 10<m+1∨6<=deep then .Nd s else HL step (deep+1) t.ao (m+1) s:=by cases t;rfl
theorem wA{j:Nat}(h:j<1048577):af.int .i64 (IntKind.i64.wrap ((j:Int)+1))=i64 ((j+1:Nat):Int):=aP j (by omega)
set_option maxRecDepth 100000 in
theorem V8{c:Lp}{σ:Type}(k:Consumer c σ): ∀(N:Nat)(t:aA),SizeOf.sizeOf t<=N-> ∀(deep m:Nat)(s:σ)(C:List Nat)(h:aG)(km ky kw:Nat),k.J s C h->h[km]?=some (.box (i64 m))->h[ky]?=some (.box (.func (.yield c.l) [] []))->
  h[kw]?=some (.box (.func (.func 100) [] [.ptr km 0 0,.ptr ky 0 0,.ptr kw 0 0]))->km∉C->ky∉C->kw∉C->km≠ky->km≠kw->m<=10->deep<=6->t.small->
  jr cf (some c) 100 [t.enc,i64 deep,.ptr km 0 0,.ptr ky 0 0,.ptr kw 0 0] h HM (Dz k C h km (wk k.step deep t m s)):=by
   intro N
   induction N with
   |zero=>intro t ht;exfalso;cases t;simp at ht
   |succ N ih=>
   intro t ht deep m s C h km ky kw hJ hm hy hw nm ny nw kmy kmw m10 d6 gu;refine tP (Ky:=V7) (wm Qz) (by kernel_rfl) fun B=>?_;rw[YE];obtain⟨au,n,aD,cells,a,b,aq,agg,col,ao⟩:=t;conv=>whnf
   intro k1 h1 eg er;conv=>whnf
   have f1:A9 km C h C h1:=A9.alloc er;have e1:h1[k1]?=some (.box (aA.mk au n aD cells a b aq agg col ao).enc):=gD eg er;have k1m:km≠k1:=by have:=ib hm;omega
   have k1C:k1∉C:=fun hc=>by have:=k.lt s C h hJ k1 hc;omega
   refine⟨_,jo er hm,rfl,?_⟩;conv=>whnf
   refine⟨_,jo er hm,rfl,?_⟩;conv=>whnf
   intro h2 jb
   have Pa:h2[km]?=some (.box (i64 ((m+1:Nat):Int))):=by
    rw[gQ jb (jo er hm)];exact congrArg (fun x=>some (dH.box x)) (wA (by omega))
   have f2:A9 km C h C h2:=f1.trans (A9.aa9 jb);conv=>whnf
   refine⟨_,f2.get hy ny kmy.symm,rfl,?_⟩;conv=>whnf
   refine⟨_,mN jb e1 k1m,rfl,?_⟩;conv=>whnf
   have hJ2:k.J s C h2:=k.Tz s C h h2 hJ f2.1 fun id dm=>by
    have hx:=aab (k.lt s C h hJ id dm);rw[hx];exact mN jb (jo er hx) fun e=>nm (e▸dm)
   refine⟨rfl,oR.mono (k.QF s C h2 deep (aA.mk au n aD cells a b aq agg col ao) hJ2) fun v h3 g3 hv=>?_⟩;rcases hv with⟨s',hs,rfl,rfl,C1,hJ3,hF3⟩|⟨s',hs,rfl,hx⟩
   ·conv=>whnf
    rw[hs];have f3:A9 km C h C1 h3:=f2.trans hF3.toK;have ZR:h3[km]?=some (.box (i64 ((m+1:Nat):Int))):=(hF3.2.1 km (ib Pa) nm).trans Pa
    have e3:h3[k1]?=some (.box (aA.mk au n aD cells a b aq agg col ao).enc):=by
     have:=mN jb e1 k1m;exact(hF3.2.1 k1 (ib this) k1C).trans this
    refine⟨_,ZR,rfl,?_⟩;conv=>whnf
    refine ae (fun h1=>?_) (fun h1=>?_)
    ·have g1:10<m+1:=by have:((m+1:Nat):Int)>10:=by simpa using h1
                        omega
     conv=>whnf
     refine⟨_,rfl,?_⟩;simp only[g1,true_or,if_true];exact⟨rfl,rfl,C1,hJ3⟩
    ·have g1: ¬10<m+1:=by have: ¬((m+1:Nat):Int)>10:=by simpa using h1
                          omega
     conv=>whnf
     refine ae (fun h2=>?_) (fun h2=>?_)
     ·have g2:6<=deep:=by have:((deep:Nat):Int)>=6:=by simpa using h2
                          omega
      conv=>whnf
      refine⟨_,rfl,?_⟩;simp only[g2,or_true,if_true];exact⟨rfl,rfl,C1,hJ3⟩
     ·have g2: ¬6<=deep:=by have: ¬((deep:Nat):Int)>=6:=by simpa using h2
                            omega
      simp only[g1,g2,or_false,if_false];conv=>whnf
      refine⟨_,e3,rfl,?_⟩;conv=>whnf
      have hd:=wA (j:=deep) (by omega);obtain⟨sc,lf,gS,gE⟩:=eE gu
      refine⟨fun n_ tm hp g=>∃(j m':Nat)(s1:σ)(C2:List Nat),j+n_=ao.length/\tm 1=i64 deep/\tm 4= .ptr kw 0 0/\tm 26= .sl (aA.dv ao)/\tm 27=i64 ((aA.dv ao).length:Nat)/\tm 28=i64 (j:Nat)/\g=HM/\k.J s1 C2 hp/\
       hp[km]?=some (.box (i64 m'))/\m'<=10/\A9 km C h C2 hp/\HL k.step (deep+1) ao (m+1) s'=HL k.step (deep+1) (ao.drop j) m' s1,ao.length,⟨0,m+1,s',C1,by omega,rfl,rfl,rfl,rfl,rfl,rfl,hJ3,ZR,by omega,f3,rfl⟩,fun n2 tm hp g hI=>?_⟩
      obtain⟨j,m',s1,C2,hj,t1,t4,t26,t27,t28,rfl,Wa,ja,YF,F',TA⟩:=hI;rw[show tm=fX (fX (fX (fX (fX tm 1 (i64 deep)) 4 (.ptr kw 0 0)) 26 (.sl (aA.dv ao))) 27 (i64 ((aA.dv ao).length:Nat))) 28 (i64 (j:Nat)) by rw[aR t1,aR t4,aR t26,aR t27,aR t28]];clear t1 t4 t26 t27 t28;conv=>whnf
      refine ae (fun fK=>?_) (fun fK=>?_)
      ·have bp:j<ao.length:=by
        have:j<(aA.dv ao).length:=by simpa using fK
        rwa [eH]at this
       obtain⟨q,hq⟩: ∃q,ao[j]?=some q:=⟨_,aab bp⟩;have hqm:q∈ao:=aaq hq
       have YG:SizeOf.sizeOf q<=N:=by
        have h1:=abo hqm;simp at ht;omega
       have abe:=gE q hqm
       have YH:ao.drop j=q::ao.drop (j+1):=by
        rw[aaf bp]
        congr 1
        rw[aab bp]at hq;exact Option.some.inj hq
       obtain⟨cG,n',dq,bR,a',b',cH,dE,ke,cE⟩:=q;conv=>whnf
       refine⟨(aA.mk cG n' dq bR a' b' cH dE ke cE).enc,?_,by omega,rfl,?_⟩
       ·rw[aaa,fN,hq];rfl
       conv=>whnf
       intro k2 h4 jS qX;conv=>whnf
       refine⟨_,gD jS qX,rfl,?_⟩;conv=>whnf
       intro h5 qJ;conv=>whnf
       have abf:=ib hm;have abg:=ib hy;have abh:=ib hw;have ae3:=ib ja;have g4: ∀i x,hp[i]?=some x->h5[i]?=some x:=fun i x hx=>mN qJ (jo qX hx) (by have:=ib hx;omega);have F5:A9 km C2 hp C2 h5:=⟨by rw[qJ,qX];simp,fun id dm _ _=>by rw[aab dm];exact g4 id _ (aab dm),fun _ h=>.inl h⟩
       have hJ5:k.J s1 C2 h5:=k.Tz s1 C2 hp h5 Wa F5.1 fun id dm=>by
        have hx:=aab (k.lt s1 C2 hp Wa id dm);rw[hx];exact g4 id _ hx
       refine⟨_,g4 kw _ (F'.get hw nw kmw.symm),rfl,?_⟩;conv=>whnf
       refine⟨_,gQ qJ (gD jS qX),rfl,?_⟩;conv=>whnf
       have hc:jr cf (some c) 100 [(aA.mk cG n' dq bR a' b' cH dE ke cE).enc,af.int .i64 (IntKind.i64.wrap ((deep:Int)+1)),.ptr km 0 0,.ptr ky 0 0,.ptr kw 0 0] h5 HM (Dz k C2 h5 km (wk k.step (deep+1) (aA.mk cG n' dq bR a' b' cH dE ke cE) m' s1)):=by
        rw[hd];exact ih _ YG (deep+1) m' s1 C2 h5 km ky kw hJ5 (g4 km _ ja) (g4 ky _ (F'.get hy ny kmy.symm)) (g4 kw _ (F'.get hw nw kmw.symm)) (F'.QG abf nm) (F'.QG abg ny) (F'.QG abh nw) kmy kmw YF (by omega) abe
       refine jr.mono hc fun v h6 g6 hv=>?_;rw[YH]at TA;generalize hr:wk k.step (deep+1) (aA.mk cG n' dq bR a' b' cH dE ke cE) m' s1=r at hv
       cases r with
       |go m2 s2=>
        obtain⟨rfl,rfl,Pa,C3,hJ6,abk,hF6⟩:=hv;conv=>whnf
        refine⟨n2-1,by omega,j+1,m2,s2,C3,by omega,rfl,rfl,rfl,rfl,?_,rfl,hJ6,abk,Pa,(F'.trans F5).trans hF6,?_⟩
        ·exact wA (by omega)
        ·rw[TA];simp only[HL,hr]
       |Nd s2=>
        obtain⟨rfl,rfl,C3,hJ6⟩:=hv;conv=>whnf
        refine⟨_,rfl,?_⟩;show Dz k C h km (HL k.step (deep+1) ao (m+1) s') _ _ _;rw[TA];simp only[HL,hr]
        exact⟨rfl,rfl,C3,hJ6⟩
       |stop s2=>
        obtain⟨rfl,hx6⟩:=hv;conv=>whnf
        refine⟨_,rfl,?_⟩;show Dz k C h km (HL k.step (deep+1) ao (m+1) s') _ _ _;rw[TA];simp only[HL,hr];exact⟨rfl,hx6⟩
      ·have hje:j=ao.length:=by
        have: ¬j<(aA.dv ao).length:=by simpa using fK
        rw[eH]at this;omega
       subst hje;conv=>whnf
       refine⟨_,rfl,?_⟩;show Dz k C h km (HL k.step (deep+1) ao (m+1) s') _ _ _;rw[TA,aal];exact⟨rfl,rfl,YF,C2,Wa,ja,F'⟩
   ·conv=>whnf
    refine⟨_,rfl,?_⟩;rw[hs];exact⟨rfl,hx⟩
end Go.Proofs.YtfepbikckfehlaaGreat

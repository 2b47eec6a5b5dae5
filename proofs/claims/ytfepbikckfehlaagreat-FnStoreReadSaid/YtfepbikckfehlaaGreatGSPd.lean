/- The walk over a plan's parts. -/
import Derived.Test.YtfepbikckfehlaaGreatGH16
import Derived.Test.YtfepbikckfehlaaGreatGSBmT
set_option linter.unusedVariables false
set_option linter.unusedSimpArgs false
set_option maxHeartbeats 4000000
namespace Go.Proofs.YtfepbikckfehlaaGreat
open Go Go.Am
inductive WR(σ:Type) where
 |go (m:Nat) (s:σ)
 |Lq (s:σ)
 |stop (s:σ)
mutual
def wk{σ:Type}(step:σ->Nat->ax->σ×Bool)(deep:Nat):ax->Nat->σ->WR σ
 | .mk aw n aA cells a b ao agg col al,m,s=>match step s deep (.mk aw n aA cells a b ao agg col al)with
  |(s,false)=>.stop s
  |(s,true)=>if 10<m+1∨6<=deep then .Lq s else Ga step (deep+1) al (m+1) s
def Ga{σ:Type}(step:σ->Nat->ax->σ×Bool)(deep:Nat):List ax->Nat->σ->WR σ
 | [],m,s=>.go m s
 |p::ps,m,s=>match wk step deep p m s with
  | .go m s=>Ga step deep ps m s
  |r=>r
end
def Gb:LS:=⟨.ready,none⟩
def Fr(C:List Nat)(h:aC)(C':List Nat)(h':aC):Prop:=h.length<=h'.length/\(∀id,id<h.length->id∉C->h'[id]?=h[id]?)/\ ∀id∈C',id∈C∨h.length<=id
def zM(km:Nat)(C:List Nat)(h:aC)(C':List Nat)(h':aC):Prop:=h.length<=h'.length/\(∀id,id<h.length->id∉C->id≠km->h'[id]?=h[id]?)/\ ∀id∈C',id∈C∨h.length<=id
theorem zM.trans{km:Nat}{C C1 C2:List Nat}{h h1 h2:aC}(a:zM km C h C1 h1)(b:zM km C1 h1 C2 h2):zM km C h C2 h2:=by
 refine⟨bw a.1 b.1,fun id cq hn hk=>?_,fun id cq=>?_⟩
 ·refine(b.2.1 id (Nat.lt_of_lt_of_le cq a.1) (fun hc=>?_) hk).trans (a.2.1 id cq hn hk);rcases a.2.2 id hc with h|h
  ·exact hn h
  ·omega
 ·rcases b.2.2 id cq with h|h
  ·exact a.2.2 id h
  ·exact .inr (bw a.1 h)
theorem Fr.toK{km:Nat}{C C1:List Nat}{h h1:aC}(a:Fr C h C1 h1):zM km C h C1 h1:=⟨a.1,fun id h1 h2 _=>a.2.1 id h1 h2,a.2.2⟩
structure Consumer(c:Lp)(σ:Type) where
 J:σ->List Nat->aC->Prop
 Jx:σ->aC->LS->Prop
 step:σ->Nat->ax->σ×Bool
 lt: ∀s C h,J s C h-> ∀id∈C,id<h.length
 Rx: ∀s C h h',J s C h->h.length<=h'.length->(∀id∈C,h'[id]?=h[id]?)->J s C h'
 Pa: ∀s C h(deep:Nat) p,J s C h->nj cf c [i64 deep,p.enc] h Gb fun v h' g'=>
  (∃s',step s deep p=(s',true)/\v= .bool true/\g'=Gb/\ ∃C',J s' C' h'/\Fr C h C' h')∨(∃s',step s deep p=(s',false)/\v= .bool false/\Jx s' h' g')
def B7{c:Lp}{σ:Type}(k:Consumer c σ)(C:List Nat)(h:aC)(km:Nat)(r:WR σ)(v:af)(h':aC)(g':LS):Prop:=match r with
 | .go m' s'=>v= .bool true/\g'=Gb/\m'<=10/\ ∃C',k.J s' C' h'/\h'[km]?=some (.box (i64 m'))/\zM km C h C' h'
 | .Lq s'=>v= .bool false/\g'=Gb/\ ∃C',k.J s' C' h'
 | .stop s'=>v= .bool false/\k.Jx s' h' g'
def Uj(f:FuncId):Bool:=f==100
theorem zM.alloc{km:Nat}{C:List Nat}{h h':aC}{o:cJ}(e:h'=h++[o]):zM km C h C h':=by
 subst e;exact⟨by simp,fun id cq _ _=>bp cq,fun id cq=>.inl cq⟩
theorem zM.Zt{km:Nat}{C:List Nat}{h h':aC}{o:cJ}(e:h'=h.set km o):zM km C h C h':=by
 subst e;exact⟨by simp,fun id _ _ hk=>List.getElem?_set_ne (fun e=>hk e.symm),fun id cq=>.inl cq⟩
theorem zM.refl(km:Nat)(C:List Nat)(h:aC):zM km C h C h:=⟨aB _,fun _ _ _ _=>rfl,fun _ h=>.inl h⟩
theorem zM.Pb{km:Nat}{C C':List Nat}{h h':aC}(f:zM km C h C' h'){i:Nat}(hi:i<h.length)(hn:i∉C):i∉C':=fun hc=>(f.2.2 i hc).elim hn (by omega)
theorem zM.get{km:Nat}{C C':List Nat}{h h':aC}(f:zM km C h C' h'){i:Nat}{x:cJ}(hi:h[i]?=some x)(hn:i∉C)(hk:i≠km):h'[i]?=some x:=(f.2.1 i (fX hi) hn hk).trans hi
theorem WQ{σ:Type}(step:σ->Nat->ax->σ×Bool)(deep:Nat)(t:ax)(m:Nat)(s:σ):wk step deep t m s=match step s deep t with
  |(s,false)=>.stop s
  |(s,true)=>if 10<m+1∨6<=deep then .Lq s else Ga step (deep+1) t.al (m+1) s:=by cases t;rfl
theorem uM{j:Nat}(h:j<1048577):af.int .i64 (IntKind.i64.wrap ((j:Int)+1))=i64 ((j+1:Nat):Int):=aQ j (by omega)
set_option maxRecDepth 100000 in
theorem Uk{c:Lp}{σ:Type}(k:Consumer c σ): ∀(N:Nat)(t:ax),SizeOf.sizeOf t<=N-> ∀(deep m:Nat)(s:σ)(C:List Nat)(h:aC)(km ky kw:Nat),k.J s C h->h[km]?=some (.box (i64 m))->h[ky]?=some (.box (.func (.yield c.l) [] []))->
  h[kw]?=some (.box (.func (.func 100) [] [.ptr km 0 0,.ptr ky 0 0,.ptr kw 0 0]))->km∉C->ky∉C->kw∉C->km≠ky->km≠kw->m<=10->deep<=6->t.small->
  ik cf (some c) 100 [t.enc,i64 deep,.ptr km 0 0,.ptr ky 0 0,.ptr kw 0 0] h Gb (B7 k C h km (wk k.step deep t m s)):=by
   intro N
   induction N with
   |zero=>intro t ht;exfalso;cases t;simp at ht
   |succ N ih=>
   intro t ht deep m s C h km ky kw hJ hm hy hw nm ny nw Zu Zv m10 d6 fm;refine sm (IX:=Uj) (uB O4) (by kernel_rfl) fun B=>?_;rw[WQ];obtain⟨aw,n,aA,cells,a,b,ao,agg,col,al⟩:=t;conv=>whnf
   intro k1 h1 dw dC;conv=>whnf
   have f1:zM km C h C h1:=zM.alloc dC;have e1:h1[k1]?=some (.box (ax.mk aw n aA cells a b ao agg col al).enc):=fA dw dC;have k1m:km≠k1:=by have:=fX hm;omega
   have k1C:k1∉C:=fun hc=>by have:=k.lt s C h hJ k1 hc;omega
   refine⟨_,ig dC hm,rfl,?_⟩;conv=>whnf
   refine⟨_,ig dC hm,rfl,?_⟩;conv=>whnf
   intro h2 iB
   have Nk:h2[km]?=some (.box (i64 ((m+1:Nat):Int))):=by
    rw[fK iB (ig dC hm)];exact congrArg (fun x=>some (cJ.box x)) (uM (by omega))
   have f2:zM km C h C h2:=f1.trans (zM.Zt iB);conv=>whnf
   refine⟨_,f2.get hy ny Zu.symm,rfl,?_⟩;conv=>whnf
   refine⟨_,lr iB e1 k1m,rfl,?_⟩;conv=>whnf
   have hJ2:k.J s C h2:=k.Rx s C h h2 hJ f2.1 fun id cq=>by
    have hx:=au (k.lt s C h hJ id cq);rw[hx];exact lr iB (ig dC hx) fun e=>nm (e▸cq)
   refine⟨rfl,nj.mono (k.Pa s C h2 deep (ax.mk aw n aA cells a b ao agg col al) hJ2) fun v h3 g3 hv=>?_⟩;rcases hv with⟨s',hs,rfl,rfl,C1,Zw,Zx⟩|⟨s',hs,rfl,hx⟩
   ·conv=>whnf
    rw[hs];have f3:zM km C h C1 h3:=f2.trans Zx.toK;have X8:h3[km]?=some (.box (i64 ((m+1:Nat):Int))):=(Zx.2.1 km (fX Nk) nm).trans Nk
    have e3:h3[k1]?=some (.box (ax.mk aw n aA cells a b ao agg col al).enc):=by
     have:=lr iB e1 k1m;exact(Zx.2.1 k1 (fX this) k1C).trans this
    refine⟨_,X8,rfl,?_⟩;conv=>whnf
    refine ae (fun h1=>?_) (fun h1=>?_)
    ·have g1:10<m+1:=by have:((m+1:Nat):Int)>10:=by simpa using h1
                        omega
     conv=>whnf
     refine⟨_,rfl,?_⟩;simp only[g1,true_or,if_true];exact⟨rfl,rfl,C1,Zw⟩
    ·have g1: ¬10<m+1:=by have: ¬((m+1:Nat):Int)>10:=by simpa using h1
                          omega
     conv=>whnf
     refine ae (fun h2=>?_) (fun h2=>?_)
     ·have g2:6<=deep:=by have:((deep:Nat):Int)>=6:=by simpa using h2
                          omega
      conv=>whnf
      refine⟨_,rfl,?_⟩;simp only[g2,or_true,if_true];exact⟨rfl,rfl,C1,Zw⟩
     ·have g2: ¬6<=deep:=by have: ¬((deep:Nat):Int)>=6:=by simpa using h2
                            omega
      simp only[g1,g2,or_false,if_false];conv=>whnf
      refine⟨_,e3,rfl,?_⟩;conv=>whnf
      have hd:=uM (j:=deep) (by omega);obtain⟨qM,jK,fL,fB⟩:=dK fm
      refine⟨fun n_ tm hp g=>∃(j m':Nat)(s1:σ)(C2:List Nat),j+n_=al.length/\tm 1=i64 deep/\tm 4= .ptr kw 0 0/\tm 26= .sl (ax.cz al)/\tm 27=i64 ((ax.cz al).length:Nat)/\tm 28=i64 (j:Nat)/\g=Gb/\k.J s1 C2 hp/\
       hp[km]?=some (.box (i64 m'))/\m'<=10/\zM km C h C2 hp/\Ga k.step (deep+1) al (m+1) s'=Ga k.step (deep+1) (al.drop j) m' s1,al.length,⟨0,m+1,s',C1,by omega,rfl,rfl,rfl,rfl,rfl,rfl,Zw,X8,by omega,f3,rfl⟩,fun n2 tm hp g hI=>?_⟩
      obtain⟨j,m',s1,C2,hj,t1,t4,t26,t27,t28,rfl,Ul,gU,WS,F',Ry⟩:=hI;rw[show tm=eU (eU (eU (eU (eU tm 1 (i64 deep)) 4 (.ptr kw 0 0)) 26 (.sl (ax.cz al))) 27 (i64 ((ax.cz al).length:Nat))) 28 (i64 (j:Nat)) by rw[aP t1,aP t4,aP t26,aP t27,aP t28]];clear t1 t4 t26 t27 t28;conv=>whnf
      refine ae (fun eH=>?_) (fun eH=>?_)
      ·have bq:j<al.length:=by
        have:j<(ax.cz al).length:=by simpa using eH
        rwa [dM]at this
       obtain⟨q,hq⟩: ∃q,al[j]?=some q:=⟨_,au bq⟩;have hqm:q∈al:=aV hq
       have WT:SizeOf.sizeOf q<=N:=by
        have h1:=List.sizeOf_lt_of_mem hqm;simp at ht;omega
       have Zy:=fB q hqm
       have WU:al.drop j=q::al.drop (j+1):=by
        rw[ar bq]
        congr 1
        rw[au bq]at hq;exact Option.some.inj hq
       obtain⟨cd,n',cr,bK,a',b',cm,cX,jb,bU⟩:=q;conv=>whnf
       refine⟨(ax.mk cd n' cr bK a' b' cm cX jb bU).enc,?_,by omega,rfl,?_⟩
       ·rw[aq,eK,hq];rfl
       conv=>whnf
       intro k2 h4 jf pM;conv=>whnf
       refine⟨_,fA jf pM,rfl,?_⟩;conv=>whnf
       intro h5 qf;conv=>whnf
       have Zz:=fX hm;have ZA:=fX hy;have ZB:=fX hw;have adm:=fX gU;have g4: ∀i x,hp[i]?=some x->h5[i]?=some x:=fun i x hx=>lr qf (ig pM hx) (by have:=fX hx;omega);have F5:zM km C2 hp C2 h5:=⟨by rw[qf,pM];simp,fun id cq _ _=>by rw[au cq];exact g4 id _ (au cq),fun _ h=>.inl h⟩
       have ZC:k.J s1 C2 h5:=k.Rx s1 C2 hp h5 Ul F5.1 fun id cq=>by
        have hx:=au (k.lt s1 C2 hp Ul id cq);rw[hx];exact g4 id _ hx
       refine⟨_,g4 kw _ (F'.get hw nw Zv.symm),rfl,?_⟩;conv=>whnf
       refine⟨_,fK qf (fA jf pM),rfl,?_⟩;conv=>whnf
       have hc:ik cf (some c) 100 [(ax.mk cd n' cr bK a' b' cm cX jb bU).enc,af.int .i64 (IntKind.i64.wrap ((deep:Int)+1)),.ptr km 0 0,.ptr ky 0 0,.ptr kw 0 0] h5 Gb (B7 k C2 h5 km (wk k.step (deep+1) (ax.mk cd n' cr bK a' b' cm cX jb bU) m' s1)):=by
        rw[hd];exact ih _ WT (deep+1) m' s1 C2 h5 km ky kw ZC (g4 km _ gU) (g4 ky _ (F'.get hy ny Zu.symm)) (g4 kw _ (F'.get hw nw Zv.symm)) (F'.Pb Zz nm) (F'.Pb ZA ny) (F'.Pb ZB nw) Zu Zv WS (by omega) Zy
       refine ik.mono hc fun v h6 g6 hv=>?_;rw[WU]at Ry;generalize hr:wk k.step (deep+1) (ax.mk cd n' cr bK a' b' cm cX jb bU) m' s1=r at hv
       cases r with
       |go m2 s2=>
        obtain⟨rfl,rfl,Nk,C3,ZD,ZE,hF6⟩:=hv;conv=>whnf
        refine⟨n2-1,by omega,j+1,m2,s2,C3,by omega,rfl,rfl,rfl,rfl,?_,rfl,ZD,ZE,Nk,(F'.trans F5).trans hF6,?_⟩
        ·exact uM (by omega)
        ·rw[Ry];simp only[Ga,hr]
       |Lq s2=>
        obtain⟨rfl,rfl,C3,ZD⟩:=hv;conv=>whnf
        refine⟨_,rfl,?_⟩;show B7 k C h km (Ga k.step (deep+1) al (m+1) s') _ _ _;rw[Ry];simp only[Ga,hr]
        exact⟨rfl,rfl,C3,ZD⟩
       |stop s2=>
        obtain⟨rfl,hx6⟩:=hv;conv=>whnf
        refine⟨_,rfl,?_⟩;show B7 k C h km (Ga k.step (deep+1) al (m+1) s') _ _ _;rw[Ry];simp only[Ga,hr];exact⟨rfl,hx6⟩
      ·have hje:j=al.length:=by
        have: ¬j<(ax.cz al).length:=by simpa using eH
        rw[dM]at this;omega
       subst hje;conv=>whnf
       refine⟨_,rfl,?_⟩;show B7 k C h km (Ga k.step (deep+1) al (m+1) s') _ _ _;rw[Ry,aL];exact⟨rfl,rfl,WS,C2,Ul,gU,F'⟩
   ·conv=>whnf
    refine⟨_,rfl,?_⟩;rw[hs];exact⟨rfl,hx⟩
end Go.Proofs.YtfepbikckfehlaaGreat

/- The iterator over a plan's parts; sizeOk. -/
import Derived.Test.YtfepbikckfehlaaGreatGSPd
set_option linter.unusedVariables false
set_option linter.unusedSimpArgs false
set_option maxHeartbeats 4000000
namespace Go.Proofs.YtfepbikckfehlaaGreat
open Go Go.Am
set_option maxRecDepth 100000 in
theorem WV(t:ax):dm QD 63 [t.enc] (.func (.func 99) [] [.eY [t.enc] 0 0]):=by
 obtain⟨aw,n,aA,cells,a,b,ao,agg,col,al⟩:=t;refine bY ok0 rfl rfl ?_;conv=>whnf
 refine⟨_,_,rfl,?_⟩
 kernel_rfl
def Rz{c:Lp}{σ:Type}(k:Consumer c σ)(r:WR σ)(h':aC)(g':LS):Prop:=match r with
 | .go _ s'=>g'=Gb/\ ∃C',k.J s' C' h'
 | .Lq s'=>g'=Gb/\ ∃C',k.J s' C' h'
 | .stop s'=>k.Jx s' h' g'
set_option maxRecDepth 100000 in
theorem Um{c:Lp}{σ:Type}(k:Consumer c σ)(t:ax)(fm:t.small)(s:σ)(C:List Nat)(h:aC)(hJ:k.J s C h):
  ik cf (some c) 99 [.func (.yield c.l) [] [],.eY [t.enc] 0 0] h Gb fun v h' g'=>Rz k (wk k.step 0 t 0 s) h' g':=by
   refine sm (IX:=Uj) (uB O4) (by kernel_rfl) fun B=>?_;have QF:=Uk k _ t (aB _) 0 0 s;have eH:=k.lt s C h hJ;obtain⟨aw,n,aA,cells,a,b,ao,agg,col,al⟩:=t;conv=>whnf
   intro ky h1 Mc dC;conv=>whnf
   intro km h2 YR iB;conv=>whnf
   refine⟨_,fA YR iB,rfl,?_⟩;conv=>whnf
   intro h3 jN;conv=>whnf
   intro kw h4 hkw pM;conv=>whnf
   refine⟨_,fA hkw pM,rfl,?_⟩;conv=>whnf
   intro h5 qf;conv=>whnf
   have l1:h1.length=h.length+1:=by rw[dC];simp
   have l2:h2.length=h1.length+1:=by rw[iB];simp
   have l3:h3.length=h2.length:=by rw[jN];simp
   have l4:h4.length=h3.length+1:=by rw[pM];simp
   have l5:h5.length=h4.length:=by rw[qf];simp
   have old: ∀i x,h[i]?=some x->h5[i]?=some x:=fun i x hx=>by
    have:=fX hx;exact lr qf (ig pM (lr jN (ig iB (ig dC hx)) (by omega))) (by omega)
   have ey:h5[ky]?=some (.box (.func (.yield c.l) [] [])):=lr qf (ig pM (lr jN (ig iB (fA Mc dC)) (by omega))) (by omega);have em:h5[km]?=some (.box (i64 (0:Nat))):=lr qf (ig pM (fK jN (fA YR iB))) (by omega);have ew:=fK qf (fA hkw pM);refine⟨_,ew,rfl,?_⟩;conv=>whnf
   have ZC:k.J s C h5:=k.Rx s C h h5 hJ (by omega) fun id cq=>by
    have hx:=au (eH id cq);rw[hx];exact old id _ hx
   refine ik.mono (QF C h5 km ky kw ZC em ey ew (fun hc=>by have:=eH _ hc;omega) (fun hc=>by have:=eH _ hc;omega) (fun hc=>by have:=eH _ hc;omega) (by omega) (by omega) (by omega) (by omega) fm) fun v h6 g6 hv=>?_
   have key:Rz k (wk k.step 0 (ax.mk aw n aA cells a b ao agg col al) 0 s) h6 g6/\ ∃b,v= .bool b:=by
    unfold Rz;unfold B7 at hv;split at hv
    ·rename_i he;rw[he];obtain⟨rfl,rfl,_,C',Ul,_⟩:=hv;exact⟨⟨rfl,C',Ul⟩,_,rfl⟩
    ·rename_i he;rw[he];obtain⟨rfl,rfl,C',Ul⟩:=hv;exact⟨⟨rfl,C',Ul⟩,_,rfl⟩
    ·rename_i he;rw[he];obtain⟨rfl,hx⟩:=hv;exact⟨hx,_,rfl⟩
   obtain⟨hW,bb,rfl⟩:=key;conv=>whnf
   refine ae (fun hb=>?_) (fun hb=>?_)
   ·conv=>whnf
    exact⟨_,rfl,hW⟩
   ·conv=>whnf
    exact⟨_,rfl,hW⟩
def mj(s:Nat)(deep:Nat)(p:ax):Nat×Bool:=(s+1,!decide (10<s+1∨6<=deep))
def kE(t:ax):Bool:=match wk mj 0 t 0 0 with
 | .stop _=>false
 |_=>true
theorem zN{tm:Nat->af}{h:aC}{k:Nat}{b:Bool}(ht:tm 2= .ptr k 0 0)(hk:h[k]?=some (.box (.bool b))):cp (i6 cf.P ⟨tm,h⟩) [ResultVar.cell 2 4]=some [.bool b]:=by
 have:i6 cf.P ⟨tm,h⟩ (.cell 2 4)=some (.bool b):=by
  show jq cf.P 4 (tm 2) h=_;rw[ht]
  show(match h[k]? with
   |some (.box x)=>if 0=0 then ff cf.P 4 x 0 else none
   |some (.arr _ es)=>(match es[0]? with
    |some x=>ff cf.P 4 x 0
    |none=>none)
   |_=>none)=_
  rw[hk]
  kernel_rfl
 simp only[cp,this]
set_option maxRecDepth 100000 in
theorem Pc(t:ax)(fm:t.small):ik cf none 29 [t.enc] [] Gb fun v h' g'=>v= .bool (kE t):=by
 refine sm (IX:=fun _=>false) (uB O4) (by kernel_rfl) fun B=>?_;have ha:=WV t;have QF:=fun(c:Lp)(k:Consumer c Nat) C h=>Um k t fm 0 C h;unfold kE;obtain⟨aw,n,aA,cells,a,b,ao,agg,col,al⟩:=t;conv=>whnf
 intro k0 h0 Nm hh0;conv=>whnf
 intro k1 h1 dw dC;conv=>whnf
 intro k2 h2 jf iB;conv=>whnf
 refine⟨_,fA jf iB,rfl,?_⟩;conv=>whnf
 intro h3 jN;conv=>whnf
 have ZF:k2≠k0:=by
  have a1:h1.length=h0.length+1:=by rw[dC];simp
  have b1:k0=0:=Nm;omega
 refine⟨_,lr jN (ig iB (ig dC (fA Nm hh0))) ZF,rfl,?_⟩;conv=>whnf
 refine⟨_,ha _,?_⟩;conv=>whnf
 refine⟨rfl,fun c e1 e2 e3 e4 e5=>?_⟩;have l0:h0.length=1:=by rw[hh0];rfl
 have l1:h1.length=h0.length+1:=by rw[dC];simp
 have l2:h2.length=h1.length+1:=by rw[iB];simp
 have l3:h3.length=h2.length:=by rw[jN];simp
 have k00:k0=0:=Nm;have ZG:k1≠k2:=by omega
 let K:Consumer c Nat:=
  {J:=fun s C h=>C=[k1,k2]/\h[k1]?=some (.box (.bool false))/\h[k2]?=some (.box (i64 (s:Nat)))/\s<=10
   Jx:=fun _ h g=>h[k1]?=some (.box (.bool false))/\g=⟨.done,some .ret⟩
   step:=mj
   lt:=fun s C h hJ id cq=>by
    obtain⟨rfl,h1,h2,_⟩:=hJ;rcases aW.1 cq with rfl|cq
    ·exact fX h1
    ·rcases aW.1 cq with rfl|cq
     ·exact fX h2
     ·simp at cq
   Rx:=fun s C h h' hJ _ hs=>by
    obtain⟨rfl,h1,h2,h3⟩:=hJ;exact⟨rfl,(hs k1 (by simp)).trans h1,(hs k2 (by simp)).trans h2,h3⟩
   Pa:=fun s C h deep p hJ=>by
    obtain⟨rfl,j1,j2,j3⟩:=hJ;refine Du (N:=17) (uB O4) rfl (by rw[e1];rfl) e5 (by rw[e1];decide) (by rw[e2];kernel_rfl) (by rw[e3];kernel_rfl) fun B'=>?_;rw[e1,e2,e3,e4];conv=>whnf
    refine⟨rfl,?_⟩;conv=>whnf
    refine⟨_,j2,rfl,?_⟩;conv=>whnf
    refine⟨_,j2,rfl,?_⟩;conv=>whnf
    intro h4 pM
    have m4:h4[k2]?=some (.box (i64 ((s+1:Nat):Int))):=by
     rw[fK pM j2];exact congrArg (fun x=>some (cJ.box x)) (uM (by omega))
    have r4:h4[k1]?=some (.box (.bool false)):=lr pM j1 (Ne.symm ZG)
    have F4:Fr [k1,k2] h [k1,k2] h4:=by
     refine⟨by rw[pM];simp,fun id _ hn=>?_,fun id cq=>.inl cq⟩;rw[pM];exact List.getElem?_set_ne (fun e=>hn (by simp[<-e]))
    conv=>whnf
    refine⟨_,m4,rfl,?_⟩;conv=>whnf
    have stop:(10<s+1∨6<=deep)-> ∀h5,h5=h4.set k1 (.box (.bool false))->(∃s',mj s deep p=(s',true)/\af.bool false= .bool true/\(⟨.done,some .ret⟩:LS)=Gb/\ ∃C',(C'=[k1,k2]/\h5[k1]?=some (.box (.bool false))/\h5[k2]?=some (.box (i64 (s':Nat)))/\s'<=10)/\Fr [k1,k2] h C' h5)∨
      (∃s',mj s deep p=(s',false)/\af.bool false= .bool false/\h5[k1]?=some (.box (.bool false))/\(⟨.done,some .ret⟩:LS)=⟨.done,some .ret⟩):=by
       intro hc h5 qf;exact .inr ⟨s+1,by simp[mj,hc],rfl,fK qf r4,rfl⟩
    refine ae (fun b1=>?_) (fun b1=>?_)
    ·have g1:10<s+1:=by have:((s+1:Nat):Int)>10:=by simpa using b1
                        omega
     conv=>whnf
     refine⟨_,r4,rfl,?_⟩;conv=>whnf
     intro h5 qf;conv=>whnf
     exact stop (.inl g1) h5 qf
    ·have g1: ¬10<s+1:=by have: ¬((s+1:Nat):Int)>10:=by simpa using b1
                          omega
     conv=>whnf
     refine ae (fun b2=>?_) (fun b2=>?_)
     ·have g2:6<=deep:=by have:((deep:Nat):Int)>=6:=by simpa using b2
                          omega
      conv=>whnf
      refine⟨_,r4,rfl,?_⟩;conv=>whnf
      intro h5 qf;conv=>whnf
      exact stop (.inr g2) h5 qf
     ·have g2: ¬6<=deep:=by have: ¬((deep:Nat):Int)>=6:=by simpa using b2
                            omega
      conv=>whnf
      exact .inl ⟨s+1,by simp[mj,g2];omega,rfl,rfl,[k1,k2],⟨rfl,r4,m4,by omega⟩,F4⟩}
 have hb3:h3[k1]?=some (.box (.bool false)):=lr jN (ig iB (fA dw dC)) (by omega);have X8:h3[k2]?=some (.box (i64 ((0:Nat):Int))):=fK jN (fA jf iB);refine ik.mono (QF c K [k1,k2] h3 ⟨rfl,hb3,X8,by omega⟩) fun v h4 g4 hv=>?_;unfold Rz at hv;split at hv
 ·rename_i s' he;obtain⟨rfl,C',⟨rfl,r1,r2,_⟩⟩:=hv;have zc:wk mj 0 (ax.mk aw n aA cells a b ao agg col al) 0 0= .go _ s':=he;rw[zc];refine⟨(fun e=>by cases e),?_⟩;conv=>whnf
  refine⟨_,r1,rfl,?_⟩;conv=>whnf
  intro h5 qf;conv=>whnf
  exact⟨[.bool true],zN rfl (fK qf r1),rfl⟩
 ·rename_i s' he;obtain⟨rfl,C',⟨rfl,r1,r2,_⟩⟩:=hv;have zc:wk mj 0 (ax.mk aw n aA cells a b ao agg col al) 0 0= .Lq s':=he;rw[zc];refine⟨(fun e=>by cases e),?_⟩;conv=>whnf
  refine⟨_,r1,rfl,?_⟩;conv=>whnf
  intro h5 qf;conv=>whnf
  exact⟨[.bool true],zN rfl (fK qf r1),rfl⟩
 ·rename_i s' he;obtain⟨r1,rfl⟩:=hv;have zc:wk mj 0 (ax.mk aw n aA cells a b ao agg col al) 0 0= .stop s':=he;rw[zc];refine⟨(fun e=>by cases e),?_⟩;conv=>whnf
  exact⟨[.bool false],zN rfl r1,rfl⟩
end Go.Proofs.YtfepbikckfehlaaGreat

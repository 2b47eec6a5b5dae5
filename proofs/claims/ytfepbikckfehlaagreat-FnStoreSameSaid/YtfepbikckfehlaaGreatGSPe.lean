/- The iterator over a plan's parts; sizeOk. -/
import Derived.Test.YtfepbikckfehlaaGreatGSPd
set_option linter.unusedVariables false
set_option linter.unusedSimpArgs false
set_option maxHeartbeats 4000000
namespace Go.Proofs.YtfepbikckfehlaaGreat
open Go Go.Am
set_option maxRecDepth 100000 in
theorem YI(t:aA):dK Sq 63 [t.enc] (.func (.func 99) [] [.fQ [t.enc] 0 0]):=by
 obtain⟨au,n,aD,cells,a,b,aq,agg,col,ao⟩:=t;refine cX ok0 rfl rfl ?_;conv=>whnf
 refine⟨_,_,rfl,?_⟩
 kernel_rfl
def TB{c:Lp}{σ:Type}(k:Consumer c σ)(r:WR σ)(h':aG)(g':LS):Prop:=match r with
 | .go _ s'=>g'=HM/\ ∃C',k.J s' C' h'
 | .Nd s'=>g'=HM/\ ∃C',k.J s' C' h'
 | .stop s'=>k.Jx s' h' g'
set_option maxRecDepth 100000 in
theorem Wb{c:Lp}{σ:Type}(k:Consumer c σ)(t:aA)(gu:t.small)(s:σ)(C:List Nat)(h:aG)(hJ:k.J s C h):
  jr cf (some c) 99 [.func (.yield c.l) [] [],.fQ [t.enc] 0 0] h HM fun v h' g'=>TB k (wk k.step 0 t 0 s) h' g':=by
   refine tP (Ky:=V7) (wm Qz) (by kernel_rfl) fun B=>?_;have Ss:=V8 k _ t (aah _) 0 0 s;have fK:=k.lt s C h hJ;obtain⟨au,n,aD,cells,a,b,aq,agg,col,ao⟩:=t;conv=>whnf
   intro ky h1 NW er;conv=>whnf
   intro km h2 hkm jb;conv=>whnf
   refine⟨_,gD hkm jb,rfl,?_⟩;conv=>whnf
   intro h3 lI;conv=>whnf
   intro kw h4 hkw qX;conv=>whnf
   refine⟨_,gD hkw qX,rfl,?_⟩;conv=>whnf
   intro h5 qJ;conv=>whnf
   have l1:h1.length=h.length+1:=by rw[er];simp
   have l2:h2.length=h1.length+1:=by rw[jb];simp
   have l3:h3.length=h2.length:=by rw[lI];simp
   have l4:h4.length=h3.length+1:=by rw[qX];simp
   have l5:h5.length=h4.length:=by rw[qJ];simp
   have old: ∀i x,h[i]?=some x->h5[i]?=some x:=fun i x hx=>by
    have:=ib hx;exact mN qJ (jo qX (mN lI (jo jb (jo er hx)) (by omega))) (by omega)
   have ey:h5[ky]?=some (.box (.func (.yield c.l) [] [])):=mN qJ (jo qX (mN lI (jo jb (gD NW er)) (by omega))) (by omega);have em:h5[km]?=some (.box (i64 (0:Nat))):=mN qJ (jo qX (gQ lI (gD hkm jb))) (by omega);have ew:=gQ qJ (gD hkw qX);refine⟨_,ew,rfl,?_⟩;conv=>whnf
   have hJ5:k.J s C h5:=k.Tz s C h h5 hJ (by omega) fun id dm=>by
    have hx:=aab (fK id dm);rw[hx];exact old id _ hx
   refine jr.mono (Ss C h5 km ky kw hJ5 em ey ew (fun hc=>by have:=fK _ hc;omega) (fun hc=>by have:=fK _ hc;omega) (fun hc=>by have:=fK _ hc;omega) (by omega) (by omega) (by omega) (by omega) gu) fun v h6 g6 hv=>?_
   have key:TB k (wk k.step 0 (aA.mk au n aD cells a b aq agg col ao) 0 s) h6 g6/\ ∃b,v= .bool b:=by
    unfold TB;unfold Dz at hv;split at hv
    ·rename_i he;rw[he];obtain⟨rfl,rfl,_,C',Wa,_⟩:=hv;exact⟨⟨rfl,C',Wa⟩,_,rfl⟩
    ·rename_i he;rw[he];obtain⟨rfl,rfl,C',Wa⟩:=hv;exact⟨⟨rfl,C',Wa⟩,_,rfl⟩
    ·rename_i he;rw[he];obtain⟨rfl,hx⟩:=hv;exact⟨hx,_,rfl⟩
   obtain⟨hW,bb,rfl⟩:=key;conv=>whnf
   refine ae (fun hb=>?_) (fun hb=>?_)
   ·conv=>whnf
    exact⟨_,rfl,hW⟩
   ·conv=>whnf
    exact⟨_,rfl,hW⟩
def nL(s:Nat)(deep:Nat)(p:aA):Nat×Bool:=(s+1,!decide (10<s+1∨6<=deep))
def lW(t:aA):Bool:=match wk nL 0 t 0 0 with
 | .stop _=>false
 |_=>true
theorem Ba{tm:Nat->af}{h:aG}{k:Nat}{b:Bool}(ht:tm 2= .ptr k 0 0)(hk:h[k]?=some (.box (.bool b))):di (kM cf.P ⟨tm,h⟩) [ResultVar.cell 2 4]=some [.bool b]:=by
 have:kM cf.P ⟨tm,h⟩ (.cell 2 4)=some (.bool b):=by
  show ku cf.P 4 (tm 2) h=_;rw[ht]
  show(match h[k]? with
   |some (.box x)=>if 0=0 then fZ cf.P 4 x 0 else none
   |some (.arr _ es)=>(match es[0]? with
    |some x=>fZ cf.P 4 x 0
    |none=>none)
   |_=>none)=_
  rw[hk]
  kernel_rfl
 simp only[di,this]
set_option maxRecDepth 100000 in
theorem QH(t:aA)(gu:t.small):jr cf none 29 [t.enc] [] HM fun v h' g'=>v= .bool (lW t):=by
 refine tP (Ky:=fun _=>false) (wm Qz) (by kernel_rfl) fun B=>?_;have ha:=YI t;have Ss:=fun(c:Lp)(k:Consumer c Nat) C h=>Wb k t gu 0 C h;unfold lW;obtain⟨au,n,aD,cells,a,b,aq,agg,col,ao⟩:=t;conv=>whnf
 intro k0 h0 Pc hh0;conv=>whnf
 intro k1 h1 eg er;conv=>whnf
 intro k2 h2 jS jb;conv=>whnf
 refine⟨_,gD jS jb,rfl,?_⟩;conv=>whnf
 intro h3 lI;conv=>whnf
 have abl:k2≠k0:=by
  have a1:h1.length=h0.length+1:=by rw[er];simp
  have b1:k0=0:=Pc;omega
 refine⟨_,mN lI (jo jb (jo er (gD Pc hh0))) abl,rfl,?_⟩;conv=>whnf
 refine⟨_,ha _,?_⟩;conv=>whnf
 refine⟨rfl,fun c e1 e2 e3 e4 e5=>?_⟩;have l0:h0.length=1:=by rw[hh0];rfl
 have l1:h1.length=h0.length+1:=by rw[er];simp
 have l2:h2.length=h1.length+1:=by rw[jb];simp
 have l3:h3.length=h2.length:=by rw[lI];simp
 have k00:k0=0:=Pc;have abm:k1≠k2:=by omega
 let K:Consumer c Nat:=
  {J:=fun s C h=>C=[k1,k2]/\h[k1]?=some (.box (.bool false))/\h[k2]?=some (.box (i64 (s:Nat)))/\s<=10
   Jx:=fun _ h g=>h[k1]?=some (.box (.bool false))/\g=⟨.done,some .ret⟩
   step:=nL
   lt:=fun s C h hJ id dm=>by
    obtain⟨rfl,h1,h2,_⟩:=hJ;rcases aaz.1 dm with rfl|dm
    ·exact ib h1
    ·rcases aaz.1 dm with rfl|dm
     ·exact ib h2
     ·simp at dm
   Tz:=fun s C h h' hJ _ hs=>by
    obtain⟨rfl,h1,h2,h3⟩:=hJ;exact⟨rfl,(hs k1 (by simp)).trans h1,(hs k2 (by simp)).trans h2,h3⟩
   QF:=fun s C h deep p hJ=>by
    obtain⟨rfl,j1,j2,j3⟩:=hJ;refine EV (N:=17) (wm Qz) rfl (by rw[e1];rfl) e5 (by rw[e1];decide) (by rw[e2];kernel_rfl) (by rw[e3];kernel_rfl) fun B'=>?_;rw[e1,e2,e3,e4];conv=>whnf
    refine⟨rfl,?_⟩;conv=>whnf
    refine⟨_,j2,rfl,?_⟩;conv=>whnf
    refine⟨_,j2,rfl,?_⟩;conv=>whnf
    intro h4 qX
    have m4:h4[k2]?=some (.box (i64 ((s+1:Nat):Int))):=by
     rw[gQ qX j2];exact congrArg (fun x=>some (dH.box x)) (wA (by omega))
    have r4:h4[k1]?=some (.box (.bool false)):=mN qX j1 (Ne.symm abm)
    have F4:Fr [k1,k2] h [k1,k2] h4:=by
     refine⟨by rw[qX];simp,fun id _ hn=>?_,fun id dm=>.inl dm⟩;rw[qX];exact abJ (fun e=>hn (by simp[<-e]))
    conv=>whnf
    refine⟨_,m4,rfl,?_⟩;conv=>whnf
    have stop:(10<s+1∨6<=deep)-> ∀h5,h5=h4.set k1 (.box (.bool false))->(∃s',nL s deep p=(s',true)/\af.bool false= .bool true/\(⟨.done,some .ret⟩:LS)=HM/\ ∃C',(C'=[k1,k2]/\h5[k1]?=some (.box (.bool false))/\h5[k2]?=some (.box (i64 (s':Nat)))/\s'<=10)/\Fr [k1,k2] h C' h5)∨
      (∃s',nL s deep p=(s',false)/\af.bool false= .bool false/\h5[k1]?=some (.box (.bool false))/\(⟨.done,some .ret⟩:LS)=⟨.done,some .ret⟩):=by
       intro hc h5 qJ;exact .inr ⟨s+1,by simp[nL,hc],rfl,gQ qJ r4,rfl⟩
    refine ae (fun b1=>?_) (fun b1=>?_)
    ·have g1:10<s+1:=by have:((s+1:Nat):Int)>10:=by simpa using b1
                        omega
     conv=>whnf
     refine⟨_,r4,rfl,?_⟩;conv=>whnf
     intro h5 qJ;conv=>whnf
     exact stop (.inl g1) h5 qJ
    ·have g1: ¬10<s+1:=by have: ¬((s+1:Nat):Int)>10:=by simpa using b1
                          omega
     conv=>whnf
     refine ae (fun b2=>?_) (fun b2=>?_)
     ·have g2:6<=deep:=by have:((deep:Nat):Int)>=6:=by simpa using b2
                          omega
      conv=>whnf
      refine⟨_,r4,rfl,?_⟩;conv=>whnf
      intro h5 qJ;conv=>whnf
      exact stop (.inr g2) h5 qJ
     ·have g2: ¬6<=deep:=by have: ¬((deep:Nat):Int)>=6:=by simpa using b2
                            omega
      conv=>whnf
      exact .inl ⟨s+1,by simp[nL,g2];omega,rfl,rfl,[k1,k2],⟨rfl,r4,m4,by omega⟩,F4⟩}
 have hb3:h3[k1]?=some (.box (.bool false)):=mN lI (jo jb (gD eg er)) (by omega);have ZR:h3[k2]?=some (.box (i64 ((0:Nat):Int))):=gQ lI (gD jS jb);refine jr.mono (Ss c K [k1,k2] h3 ⟨rfl,hb3,ZR,by omega⟩) fun v h4 g4 hv=>?_;unfold TB at hv;split at hv
 ·rename_i s' he;obtain⟨rfl,C',⟨rfl,r1,r2,_⟩⟩:=hv;have AD:wk nL 0 (aA.mk au n aD cells a b aq agg col ao) 0 0= .go _ s':=he;rw[AD];refine⟨(fun e=>by cases e),?_⟩;conv=>whnf
  refine⟨_,r1,rfl,?_⟩;conv=>whnf
  intro h5 qJ;conv=>whnf
  exact⟨[.bool true],Ba rfl (gQ qJ r1),rfl⟩
 ·rename_i s' he;obtain⟨rfl,C',⟨rfl,r1,r2,_⟩⟩:=hv;have AD:wk nL 0 (aA.mk au n aD cells a b aq agg col ao) 0 0= .Nd s':=he;rw[AD];refine⟨(fun e=>by cases e),?_⟩;conv=>whnf
  refine⟨_,r1,rfl,?_⟩;conv=>whnf
  intro h5 qJ;conv=>whnf
  exact⟨[.bool true],Ba rfl (gQ qJ r1),rfl⟩
 ·rename_i s' he;obtain⟨r1,rfl⟩:=hv;have AD:wk nL 0 (aA.mk au n aD cells a b aq agg col ao) 0 0= .stop s':=he;rw[AD];refine⟨(fun e=>by cases e),?_⟩;conv=>whnf
  exact⟨[.bool false],Ba rfl r1,rfl⟩
end Go.Proofs.YtfepbikckfehlaaGreat

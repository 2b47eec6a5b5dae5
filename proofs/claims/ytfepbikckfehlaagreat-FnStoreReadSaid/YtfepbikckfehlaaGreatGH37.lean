/- A store's view merged: the reference's. -/
import Derived.Test.YtfepbikckfehlaaGreatGH33
import Derived.Test.YtfepbikckfehlaaGreatGH35
import Derived.Test.YtfepbikckfehlaaGreatGH36
import Derived.Test.YtfepbikckfehlaaGreatGH32
set_option linter.unusedVariables false
set_option linter.unusedSimpArgs false
set_option maxHeartbeats 4000000
namespace Go.Proofs.YtfepbikckfehlaaGreat
open Go Go.Am
variable{pr:bL}(hp:bV pr)(hs:B8 pr)
set_option maxRecDepth 100000
theorem rY(cA:Int): ∀(ps:List cC)(z:List Item),(∀p∈ps,c7 p.out=true)->(∀x∈z,x.row.length<=cM)->(jP cA z ps).length<=z.length+100*ps.length/\ ∀x∈jP cA z ps,x.row.length<=cM
 | [],z,_,hz=>⟨by simp[jP],hz⟩
 |p::ps,z,hp,hz=>by
  have h1:=(cE (hp p (by simp))).1;have h2:=fp hz (cF (hp p (by simp))).2;simp only[jP,aJ];split
  ·obtain⟨g1,g2⟩:=rY cA ps _ (fun q hq=>hp q (by simp[hq])) h2.2;exact⟨by omega,g2⟩
  ·obtain⟨g1,g2⟩:=rY cA ps _ (fun q hq=>hp q (by simp[hq])) hz;exact⟨by omega,g2⟩
theorem oF{lo now wide:Int}: ∀{ps:List cC}{q:Option Int},dG lo now wide q ps=true-> ∀p∈ps,iv p.out wide=true
 | [],_,_,p,hp=>by simp at hp
 |x::xs,q,h,p,hp=>by
  simp only[dG,aj]at h;rcases aW.1 hp with rfl|hp
  ·exact h.1.2.2.1
  ·exact oF h.2 p hp
theorem AB{z:List Item}{w:Int}(h:iv z w=true):c7 z=true:=by
 simp only[iv,aj]at h;exact h.2
theorem pJ{ws:List Int}{now keep:Int}{v:View}(h:fD ws now keep v=true):c7 v.base=true/\(∀p∈v.aZ,c7 p.out=true)/\v.aZ.length<=40:=by
 simp only[fD,wK,aj,decide_eq_true_iff]at h;exact⟨AB h.2.2.2.2.1,fun p hp=>AB (oF h.2.2.2.2.2.2 p hp),h.2.2.2.2.2.1⟩
theorem qG{s:bJ}(h:cu s=true): ∀v∈s.aK,fD s.bc s.now s.keep v=true:=by
 simp only[cu,aj,aG]at h;exact h.2.2.2.2.2.2.2
def jx(s:bJ)(view cA:Int):List Item×Int:=
 if !cu s then([],6)
 else if decide (view<0)||(decide (view>=s.aK.length)||decide (cA>s.now))then([],1)
 else match s.aK[view.toNat]? with
  |none=>([],1)
  |some v=>if decide (cA<(if s.keep>v.bF then s.keep else v.bF))then([],4)
   else if c7 (jP cA v.base v.aZ)then(jP cA v.base v.aZ,0)else([],5)
theorem DU(hp:bV pr)(s:bJ)(view cA:Int)(ht:s.d.eX<=1048576):lu pr 7 [s.enc,i64 view,i64 cA] [aE.d (jx s view cA).1,.i (jx s view cA).2]:=by
 have dt:=jS hp s ht;have M0:=@qG s;generalize hR:jx s view cA=R;obtain⟨R1,R2⟩:=R;simp only;unfold jx at hR;generalize cu s=ok at dt M0 hR;obtain⟨bc,aF,aK,now,keep⟩:=s;simp only at hR M0;refine Db hp rfl ?_;have S:ah [] []:=ah.nil [];conv=>whnf
 intro k1 a1 dw dC;replace S:=S.alloc dw dC;clear dw dC;have S0:ah a1 [.row k1 (.box (bJ.mk bc aF aK now keep).enc)]:=S;clear S;have S:=S0;clear S0;conv=>whnf
 refine aI (S.row 0 rfl) ?_;conv=>whnf
 refine⟨_,dt _,?_⟩;conv=>whnf
 refine ae (fun g0=>?_) (fun g0=>?_)
 ·subst g0;simp only[Bool.not_true,Bool.false_eq_true,if_false]at hR;conv=>whnf
  refine ae (fun g1=>?_) (fun g1=>?_)
  ·have e:(([]:List Item),(1:Int))=(R1,R2):=by rw[<-hR];rw[g1];rfl
   cases e
   conv=>whnf
   exact⟨_,rfl,_,_,_,rfl,eW (jO 2) (nk _),by simp⟩
  ·rw[g1,Bool.false_or]at hR;conv=>whnf
   refine aI (S.row 0 rfl) ?_;conv=>whnf
   refine ae (fun g2=>?_) (fun g2=>?_)
   ·have sM:decide (view>=aK.length)=true:=by simpa using g2
    have e:(([]:List Item),(1:Int))=(R1,R2):=by rw[<-hR];rw[sM];rfl
    cases e
    conv=>whnf
    exact⟨_,rfl,_,_,_,rfl,eW (jO 2) (nk _),by simp⟩
   ·have sM:decide (view>=aK.length)=false:=by simpa using g2
    rw[sM,Bool.false_or]at hR;conv=>whnf
    refine aI (S.row 0 rfl) ?_;conv=>whnf
    refine ae (fun g3=>?_) (fun g3=>?_)
    ·have e:(([]:List Item),(1:Int))=(R1,R2):=by rw[<-hR];rw[g3];rfl
     cases e
     conv=>whnf
     exact⟨_,rfl,_,_,_,rfl,eW (jO 2) (nk _),by simp⟩
    ·rw[g3]at hR;simp only[Bool.false_eq_true,if_false]at hR;have tV:0<=view:=by simpa using g1
     have wh:view.toNat<aK.length:=by simp at g2;omega
     have M0:=M0 rfl _ (ay wh);have cx:(aK.map View.enc)[view.toNat]?=some (View.enc aK[view.toNat]):=by simp[wh]
     rw[au wh]at hR;simp only at hR;obtain⟨z1,z2,z3⟩:=pJ M0;have h5:=K6 hp keep aK[view.toNat].bF;have h6:=rY cA aK[view.toNat].aZ aK[view.toNat].base z2 (cF z1).2;have h7:=gu hp (jP cA aK[view.toNat].base aK[view.toNat].aZ) ⟨by have:=h6.1;have:=(cE z1).1;simp[cM];omega,h6.2⟩;clear h6 M0;generalize aK[view.toNat]=v at cx hR z1 z2 z3 h5 h7;generalize hz:jP cA v.base v.aZ=z at hR h7;generalize hm:(if keep>v.bF then keep else v.bF)=mx at hR h5;obtain⟨⟨⟨aw,n,aA,cells,a,b',ao,agg,c,al⟩,l,r,ks⟩,bF,base,aZ⟩:=v;simp only at h5 z1 z2 z3 hz;conv=>whnf
     refine aI (S.row 0 rfl) ?_;conv=>whnf
     refine aI (S.row 0 rfl) ?_;conv=>whnf
     refine⟨_,cx,tV,rfl,?_⟩;conv=>whnf
     refine⟨_,h5 _,?_⟩;conv=>whnf
     refine ae (fun g4=>?_) (fun g4=>?_)
     ·rw[if_pos g4]at hR;cases hR
      conv=>whnf
      exact⟨_,rfl,_,_,_,rfl,eW (jO 2) (nk _),by simp⟩
     ·rw[if_neg (by rw[g4];simp)]at hR;conv=>whnf
      refine aI (S.row 0 rfl) ?_;conv=>whnf
      refine⟨_,cx,tV,rfl,?_⟩;conv=>whnf
      refine JG hp (more:=[]) (.inl rfl) z1 z2 (by omega) rfl (ah.fzP aZ S) (fun _ _=>rfl) (fun _ _=>rfl) fun v4 F4 q4 S4=>?_;rw[show ct (jP cA base aZ) []=z from hz]at S4;clear S;conv=>whnf
      refine⟨_,h7.here (oR (aE.fU (show qS _ _ _ _ _ from S4.get 0 rfl).1)) rfl rfl,?_⟩;conv=>whnf
      refine ae (fun g5=>?_) (fun g5=>?_)
      ·rw[if_pos g5]at hR;cases hR
       conv=>whnf
       exact⟨_,rfl,_,_,_,rfl,eW ((ah.dv S4).get 0 rfl) (nk 0),by rw[aU];exact(S4.get' 0 _ rfl).2⟩
      ·rw[if_neg (by rw[g5];simp)]at hR;cases hR
       conv=>whnf
       exact⟨_,rfl,_,_,_,rfl,eW (jO 2) (nk _),by simp⟩
 ·subst g0;simp only[Bool.not_false,if_true,Prod.mk.injEq]at hR;obtain⟨rfl,rfl⟩:=hR;conv=>whnf
  exact⟨_,rfl,_,_,_,rfl,eW (jO 2) (nk _),by simp⟩
end Go.Proofs.YtfepbikckfehlaaGreat
set_option maxHeartbeats 4000000
namespace Go.Proofs.YtfepbikckfehlaaGreat
open Go Go.Am
set_option maxRecDepth 100000
theorem Qb{d:Nat}: ∀{ks:List ax},(∀q∈ks,q.sz<=14*many d q)->ax.uD ks<=14*(ks.map (many d)).sum
 | [],_=>by simp[ax.uD]
 |k::ks,h=>by
  have h1:=h k (by simp);have h2:=Qb (ks:=ks) fun q hq=>h q (by simp[hq]);simp only[ax.uD,aM,List.sum_cons];omega
theorem Le: ∀(d:Nat)(p:ax),form d p=true->p.sz<=14*many d p
 |0,p,h=>by simp[form]at h
 |d+1,.mk aw n aA cells a b ao agg c al,h=>by
  simp only[form,ax.aw,ax.al,aj,beq_iff_eq,aG]at h;obtain⟨h1,h2,h3,h4⟩:=h;have h5:=Qb fun q hq=>Le d q (h4 q hq);simp only[clean,aj,Bool.or_eq_true,beq_iff_eq]at h2;obtain⟨_,_,hc,_,hk⟩:=h2
  have iO:cells.length<=6:=by
   rcases hc with rfl|hc
   ·simp[own,ja]at h3;omega
   ·simp at hc;simp[hc]
  have sY:ao.length<=5:=by
   rcases hk with rfl|hk
   ·simp[own,dY]at h3;omega
   ·have:=hk.1;simp at this;simp[this]
  have tX:al.length<=2:=by
   unfold bX at h1
   repeat' split at h1
   all_goals omega
  simp only[ax.sz,many,ax.al];omega
theorem JH{p:ax}(h:fit p=true):p.sz<=140/\form 6 p=true/\many 6 p<=10:=by
 simp only[fit,aj,decide_eq_true_iff]at h;have:=Le 6 p h.1;exact⟨by omega,h.1,h.2⟩
theorem rZ{x:Int}(h:1<=gC x):gC x=x/\1<=x/\x<=6:=by
 unfold gC at h⊢;split at h
 ·rename_i g;simp only[aj,decide_eq_true_iff]at g;rw[if_pos (by simp[g])];exact⟨rfl,g⟩
 ·omega
theorem Hh(ws:List Int)(d:Nat)(p:ax):cy ws d p<=6:=by
 cases d with
 |zero=>simp[cy]
 |succ d=>
  obtain⟨aw,n,aA,cells,a,b,ao,agg,c,al⟩:=p;rw[cy]
  repeat' split
  all_goals first|(have:=wJ (bI (.mk aw n aA cells a b ao agg c al) ws);omega)|omega|(rename_i l _;have:=wJ (bI (.mk aw n aA cells a b ao agg c al) l);omega)
theorem xZ(p:ax):(gQ p).dx=p:=by obtain⟨aw,n,aA,cells,a,b,ao,agg,c,al⟩:=p;rfl
theorem DV(ps:List ax):(eT ps).map bA.dx=ps:=by
 induction ps with
 |nil=>rfl
 |cons p ps ih=>simp only[eT,aM,xZ,ih]
theorem iM{ws:List Int}: ∀(d:Nat)(p:ax),form d p=true->p.sz<=300->1<=cy ws d p->lA ws d (gQ p) (cy ws d p)
 |0,p,h,_,_=>by simp[form]at h
 |d+1,.mk aw n aA cells a b ao agg c al,h,je,hw=>by
  simp only[form,ax.aw,ax.al,aj,beq_iff_eq,aG]at h;obtain⟨h1,h2,h3,h4⟩:=h;have sf:shaped (.mk aw n aA cells a b ao agg c al)=true:=by simp[shaped,ax.aw,ax.al,h1,h2]
  have yd: ∀q∈al,q.sz<=300:=fun q hq=>by have:=Da hq;simp only[ax.sz]at je;omega
  simp only[gQ];have yC: ∀w:Int,∀z∈([]:List (List Item)),dH w z:=fun w z hz=>by simp at hz
  suffices hh: ∃wk:List Int,wk.length=(eT al).length/\wP ws aw n cells ao [] [] wk (cy ws (d+1) (.mk aw n aA cells a b ao agg c al))/\ ∀(i:Nat) k v,(eT al)[i]?=some k->wk[i]?=some v->lA ws d k v from
   ⟨je,rfl,rfl,fun _=>rfl,fun _ _ _=>rfl,DV al,hh⟩
  rcases eR aw with rfl|rfl|rfl|rfl|rfl|rfl|rfl|⟨g1,g2,g3,g4,g5,g6,g7⟩
  ·have Nm:al=[]:=bk.1 (by simp[bX]at h1;omega);subst Nm;rw[cy,if_pos sf,if_pos rfl]at hw⊢;obtain⟨e1,e2,e3⟩:=rZ hw;rw[e1];simp only[bI,if_true]at e2⊢;split at e2
   ·rename_i g;rw[if_pos g];simp only[aj,decide_eq_true_iff]at g;refine⟨[],rfl,.inl ⟨rfl,g.1,rfl,?_⟩,fun i k v hk=>by simp[eT]at hk⟩;have:n.toNat<ws.length:=by omega
    simp[nth,this]
   ·omega
  ·obtain⟨q,rfl⟩:=GN (show al.length=1 by simp[bX]at h1;omega);rw[j4 sf (by decide)]at hw⊢;split at hw
   ·omega
   rename_i hq;rw[if_neg hq];obtain⟨e1,e2,e3⟩:=rZ hw;rw[e1];have Jt:=iM (ws:=ws) d q (h4 q (by simp)) (yd q (by simp)) (by omega);rw[show bI (.mk 2 n aA cells a b ao agg c [q]) [cy ws d q]=(if jG aA (nth [cy ws d q] 0)then nth [cy ws d q] 0 else-1)from rfl]at e2⊢;split at e2
   ·rename_i g;rw[if_pos g];exact⟨[cy ws d q],rfl,.inr (.inl ⟨rfl,rfl⟩),fun i k v hk hv=>by cases i with|zero=>simp[eT]at hk hv;subst hk hv;exact Jt|succ i=>simp at hv⟩
   ·omega
  ·obtain⟨q,rfl⟩:=GN (show al.length=1 by simp[bX]at h1;omega);rw[j4 sf (by decide)]at hw⊢;split at hw
   ·omega
   rename_i hq;rw[if_neg hq];obtain⟨e1,e2,e3⟩:=rZ hw;rw[e1];have Jt:=iM (ws:=ws) d q (h4 q (by simp)) (yd q (by simp)) (by omega);rw[show bI (.mk 3 n aA cells a b ao agg c [q]) [cy ws d q]=(if decide (1<=cells.length)&&(decide (cells.length<=6)&&cells.all (fun c=>d9 c (nth [cy ws d q] 0)))then(cells.length:Int)else-1)from rfl]at e2⊢;split at e2
   ·rename_i g;rw[if_pos g];exact⟨[cy ws d q],rfl,.inr (.inr (.inl ⟨rfl,rfl,rfl⟩)),fun i k v hk hv=>by cases i with|zero=>simp[eT]at hk hv;subst hk hv;exact Jt|succ i=>simp at hv⟩
   ·omega
  ·obtain⟨q,q2,rfl⟩:=R4 (show al.length=2 by simp[bX]at h1;omega);rw[sx sf (by decide)]at hw⊢;split at hw
   ·omega
   rename_i hq;rw[if_neg hq];split at hw
   ·omega
   rename_i pg;rw[if_neg pg];obtain⟨e1,e2,e3⟩:=rZ hw;rw[e1];have Jt:=iM (ws:=ws) d q (h4 q (by simp)) (yd q (by simp)) (by omega);have UW:=iM (ws:=ws) d q2 (h4 q2 (by simp)) (yd q2 (by simp)) (by omega);have l1:=Hh ws d q;have l2:=Hh ws d q2;rw[show bI (.mk 4 n aA cells a b ao agg c [q,q2]) [cy ws d q,cy ws d q2]=(if col a (nth [cy ws d q,cy ws d q2] 0)&&col b (nth [cy ws d q,cy ws d q2] 1)then IntKind.i64.wrap (nth [cy ws d q,cy ws d q2] 0+nth [cy ws d q,cy ws d q2] 1)else-1)from rfl]at e2⊢;split at e2
   ·rename_i g;rw[if_pos g];refine⟨[cy ws d q,cy ws d q2],rfl,.inr (.inr (.inr (.inl ⟨rfl,cy ws d q,cy ws d q2,rfl,?_,yC _,yC _⟩))),fun i k v hk hv=>?_⟩
    ·show IntKind.i64.wrap (cy ws d q+cy ws d q2)=_;rw[aY];omega
    ·match i,hk,hv with
     |0,hk,hv=>simp[eT]at hk hv;subst hk hv;exact Jt
     |1,hk,hv=>simp[eT]at hk hv;subst hk hv;exact UW
     |i+2,hk,hv=>simp at hv
   ·omega
  ·obtain⟨q,q2,rfl⟩:=R4 (show al.length=2 by simp[bX]at h1;omega);rw[sx sf (by decide)]at hw⊢;split at hw
   ·omega
   rename_i hq;rw[if_neg hq];split at hw
   ·omega
   rename_i pg;rw[if_neg pg];obtain⟨e1,e2,e3⟩:=rZ hw;rw[e1];have Jt:=iM (ws:=ws) d q (h4 q (by simp)) (yd q (by simp)) (by omega);have UW:=iM (ws:=ws) d q2 (h4 q2 (by simp)) (yd q2 (by simp)) (by omega);rw[show bI (.mk 5 n aA cells a b ao agg c [q,q2]) [cy ws d q,cy ws d q2]=(if nth [cy ws d q,cy ws d q2] 0==nth [cy ws d q,cy ws d q2] 1 then nth [cy ws d q,cy ws d q2] 0 else-1)from rfl]at e2⊢;split at e2
   ·rename_i g;rw[if_pos g];have hEq:cy ws d q=cy ws d q2:=by simpa[nth]using g
    refine⟨[cy ws d q,cy ws d q2],rfl,.inr (.inr (.inr (.inr (.inl ⟨rfl,by rw[<-hEq];rfl⟩)))),fun i k v hk hv=>?_⟩
    match i,hk,hv with
    |0,hk,hv=>simp[eT]at hk hv;subst hk hv;exact Jt
    |1,hk,hv=>simp[eT]at hk hv;subst hk hv;exact UW
    |i+2,hk,hv=>simp at hv
   ·omega
  ·obtain⟨q,rfl⟩:=GN (show al.length=1 by simp[bX]at h1;omega);rw[j4 sf (by decide)]at hw⊢;split at hw
   ·omega
   rename_i hq;rw[if_neg hq];obtain⟨e1,e2,e3⟩:=rZ hw;rw[e1];have Jt:=iM (ws:=ws) d q (h4 q (by simp)) (yd q (by simp)) (by omega);rw[show bI (.mk 6 n aA cells a b ao agg c [q]) [cy ws d q]=(nth [cy ws d q] 0)from rfl]at e2⊢;exact⟨[cy ws d q],rfl,.inr (.inr (.inr (.inr (.inr (.inl ⟨rfl,rfl,yC _⟩))))),fun i k v hk hv=>by cases i with|zero=>simp[eT]at hk hv;subst hk hv;exact Jt|succ i=>simp at hv⟩
  ·obtain⟨q,rfl⟩:=GN (show al.length=1 by simp[bX]at h1;omega);rw[j4 sf (by decide)]at hw⊢;split at hw
   ·omega
   rename_i hq;rw[if_neg hq];obtain⟨e1,e2,e3⟩:=rZ hw;rw[e1];have Jt:=iM (ws:=ws) d q (h4 q (by simp)) (yd q (by simp)) (by omega);rw[show bI (.mk 7 n aA cells a b ao agg c [q]) [cy ws d q]=(if decide (0<=agg)&&(decide (agg<=3)&&(dY ao (nth [cy ws d q] 0)&&col c (nth [cy ws d q] 0)))then(ao.length:Int)+1 else-1)from rfl]at e2⊢;split at e2
   ·rename_i g;rw[if_pos g];exact⟨[cy ws d q],rfl,.inr (.inr (.inr (.inr (.inr (.inr ⟨rfl,rfl,_,rfl,yC _⟩))))),fun i k v hk hv=>by cases i with|zero=>simp[eT]at hk hv;subst hk hv;exact Jt|succ i=>simp at hv⟩
   ·omega
  ·exfalso;simp only[beq_eq_false_iff_ne,ne_eq]at g1 g2 g3 g4 g5 g6 g7;unfold bX at h1;rw[if_neg g1,if_neg (by omega),if_neg (by omega)]at h1;omega
theorem oG{α:Type}{f:α->α->Bool}: ∀{xs:List α},(∀x∈xs,f x x=true)->cG f xs xs=true
 | [],_=>rfl
 |x::xs,h=>by
  have h1:=h x (by simp);have h2:=oG (f:=f) (xs:=xs) fun y hy=>h y (by simp[hy]);simp only[cG,h1,h2,Bool.and_self]
theorem DW: ∀(N:Nat)(p:ax),SizeOf.sizeOf p<=N->eb p p=true:=by
 intro N
 induction N with
 |zero=>intro p h;cases p;simp at h
 |succ N ih=>
  intro p hs;obtain⟨aw,n,aA,cells,a,b,ao,agg,c,al⟩:=p;simp only[eb,ly,ax.aw,ax.n,ax.aA,ax.cells,ax.a,ax.b,ax.ao,ax.agg,ax.col,ax.al,aj,beq_self_eq_true,true_and,and_true];refine⟨by simp[tB],oG fun x _=>by simp[jm],oG fun x _=>by simp,oG fun q hq=>ih q (by have:=List.sizeOf_lt_of_mem hq;simp at hs;omega)⟩
theorem Hi(p:ax):eb p p=true:=DW _ p (aB _)
theorem Hj{d:Nat}: ∀{ks:List bA},(∀k∈ks,lT d k=true)->mu d ks (ks.map bA.dx)=true
 | [],_=>by simp[mu]
 |k::ks,h=>by
  have h1:=h k (by simp);have h2:=Hj (d:=d) (ks:=ks) fun x hx=>h x (by simp[hx]);simp only[aM,mu,Hi,h1,h2,Bool.and_self]
theorem yD{ws:List Int}: ∀(d:Nat)(f:bA)(w:Int),lA ws d f w->lT d f=true
 |0,f,w,h=>h.elim
 |d+1,.mk (.mk aw n aA cells a b ao agg col qs) l r ks,w,h=>by
  obtain⟨h1,h2,h3,h4,h5,h6,wk,h7,h8,h9⟩:=h
  have hk:=Hj (d:=d) (ks:=ks) fun k hk=>by
   obtain⟨i,hi,rfl⟩:=List.mem_iff_getElem.1 hk;exact yD d _ _ (h9 i _ wk[i] (au hi) (au (by omega)))
  rw[h6]at hk;have hlen:ks.length=qs.length:=by rw[<-h6,aO]
  simp only[lT,ax.al,ax.aw,hlen,beq_self_eq_true,hk,Bool.and_true,aX,ju,h2,h3];show((!decide (iu aw<=0)||l.isEmpty)&&(!decide (iu aw<=1)||r.isEmpty))=true
  by_cases k4:aw=4
  ·have e:iu aw=2:=by simp[iu,k4]
   simp[e]
  ·by_cases k67:aw=6∨aw=7
   ·have e:iu aw=1:=by simp[iu,k4,k67]
    simp[e,h4 k4]
   ·have e:iu aw=0:=by simp[iu,k4,k67]
    simp[e,h4 k4,h5 k4 (by omega) (by omega)]
theorem wQ{z:List Item}(h:c7 z=true):(aE.d z).eX<=700:=by
 have h1:=cE h
 have key: ∀xs:List Item,(∀x∈xs,x.row.length<=6)->ba.eQ (xs.map Item.d)<=6*xs.length:=by
  intro xs
  induction xs with
  |nil=>intro _;simp[ba.eQ]
  |cons x xs ih=>
   intro hx;have:=ih fun y hy=>hx y (by simp[hy]);have h2:=hx x (by simp);simp only[aM,ba.eQ,Item.eX,aJ];omega
 have:=key z h1.2;simp only[aE.d,ba.eX,aO];omega
theorem AD{l:List (List Item)}(hz: ∀z∈l,c7 z=true):(bM.d l).eX<=701*l.length:=by
 have key: ∀xs:List (List Item),(∀x∈xs,c7 x=true)->ba.eQ (xs.map aE.d)<=700*xs.length:=by
  intro xs
  induction xs with
  |nil=>intro _;simp[ba.eQ]
  |cons x xs ih=>
   intro hx;have:=ih fun y hy=>hx y (by simp[hy]);have h2:=wQ (hx x (by simp));simp only[aM,ba.eQ,aJ];omega
 have:=key l hz;simp only[bM.d,ba.eX,aO];omega
theorem Hk{d:Nat}: ∀{ks:List bA},(∀k∈ks,k.d.eX<=7500*many d k.dx)->ba.eQ (ks.map bA.d)<=7500*((ks.map bA.dx).map (many d)).sum
 | [],_=>by simp[ba.eQ]
 |k::ks,h=>by
  have h1:=h k (by simp);have h2:=Hk (ks:=ks) fun q hq=>h q (by simp[hq]);simp only[ba.eQ,aM,List.sum_cons];omega
theorem JI{ws:List Int}: ∀(d:Nat)(f:bA)(w:Int),lA ws d f w->f.d.eX<=7500*many d f.dx
 |0,f,w,h=>h.elim
 |d+1,.mk (.mk aw n aA cells a b ao agg col qs) l r ks,w,h=>by
  obtain⟨h1,h2,h3,h4,h5,h6,wk,h7,h8,h9⟩:=h
  have hk:=Hk (d:=d) (ks:=ks) fun k hk=>by
   obtain⟨i,hi,rfl⟩:=List.mem_iff_getElem.1 hk;exact JI d _ _ (h9 i _ wk[i] (au hi) (au (by omega)))
  have hl:=dD h2;have hr:=dD h3;have tl:=AD hl.2;have tr:=AD hr.2;have:=(qE h8).2.2.2.2;rw[jv];simp only[bA.dx,many,ax.al];rw[h6]at hk;omega
end Go.Proofs.YtfepbikckfehlaaGreat
set_option maxHeartbeats 4000000
namespace Go.Proofs.YtfepbikckfehlaaGreat
open Go Go.Am
variable{pr:bL}(hp:bV pr)
set_option maxRecDepth 100000
theorem ah.gT{h:aC}{Q:List Chunk}{bc:List Int}{aF:List (List Item)}{aK:List View}{now keep:Int}{v:af}{F:List Nat}(S:ah h (.cU (bJ.da ⟨bc,aF,aK,now,keep⟩) v F::Q)):
  ∃W T V F1 F2 F3,v= .agg [W,T,V,i64 now,i64 keep]/\W.bE=true/\T.bE=true/\V.bE=true/\ah h (.cU (.a 1 (bc.map ba.i)) W F1:: .cU (.a 1 (aF.map aE.da)) T F2:: .cU (.a 25 (aK.map View.da)) V F3::Q):=by
   have ho:bP h _ v F:=S.get 0 rfl;obtain⟨vv,rfl,hu⟩:=gx.1 ho;obtain⟨W,u1,H1,G1,rfl,rfl,g1,h2⟩:=rS.1 hu;obtain⟨T,u2,H2,G2,rfl,rfl,g2,h3⟩:=rS.1 h2;obtain⟨V,u3,H3,G3,rfl,rfl,g3,h4⟩:=rS.1 h3;obtain⟨w4,rfl,h5⟩:=ni.1 h4;obtain⟨w5,rfl,h6⟩:=ni.1 h5;obtain⟨rfl,rfl⟩:=eL.1 h6;refine⟨W,T,V,H1,H2,H3,rfl,g1.sZ.2,g2.sZ.2,g3.sZ.2,S.O3 [.cU (.a 1 (bc.map ba.i)) W H1,.cU (.a 1 (aF.map aE.da)) T H2,.cU (.a 25 (aK.map View.da)) V H3] (by simp[Chunk.cU]) ?_⟩;intro d hd;simp only[aW,List.not_mem_nil,or_false]at hd;rcases hd with rfl|rfl|rfl
   ·exact g1
   ·exact g2
   ·exact g3
theorem ah.fZ{h:aC}{Q:List Chunk}{bc:List Int}{aF:List (List Item)}{aK:List View}{now keep:Int}{W T V:af}{F1 F2 F3:List Nat}(S:ah h (.cU (.a 1 (bc.map ba.i)) W F1:: .cU (.a 1 (aF.map aE.da)) T F2:: .cU (.a 25 (aK.map View.da)) V F3::Q)):
  ah h (.cU (bJ.da ⟨bc,aF,aK,now,keep⟩) (.agg [W,T,V,i64 now,i64 keep]) (F1++(F2++(F3++[])))::Q):=by
   refine ah.Tj [.cU (.a 1 (bc.map ba.i)) W F1,.cU (.a 1 (aF.map aE.da)) T F2,.cU (.a 25 (aK.map View.da)) V F3] S ?_ (by simp[Chunk.cU]);exact gx.2 ⟨_,rfl,gF (S.get 0 rfl) (gF (S.get 1 rfl) (gF (S.get 2 rfl) (ee (ee gE))))⟩
theorem ah.vp{h:aC}{L:List Chunk}{d:ba}{v:af}(hd: ∀h,bP h d v [])(S:ah h L):ah h (.cU d v []::L):=S.more (List.prefix_refl _) (hd h) (by simp[Chunk.cU]) (by simp[Chunk.cU])
theorem kV{h:aC}{Q:List Chunk}{s:bJ}{v:af}{F:List Nat}(S:ah h (.cU s.da v F::Q))(c:Int):bZ h [s.da,.i c] [v,i64 c] (F++[])/\(F++[]).Nodup:=
 ⟨eW (S.get 0 rfl) (nk c),by rw[aU];exact(S.get' 0 _ rfl).2⟩
def Tk:bJ:=⟨[],[],[],0,0⟩
theorem vq(h:aC):bP h Tk.da (.agg [.nil,.nil,.nil,i64 0,i64 0]) []:=by
 have e: ∀sz,bP h (.a sz []) .nil []:=fun sz=>by unfold bP;exact .inl ⟨rfl,rfl,rfl⟩
 exact gx.2 ⟨_,rfl,gF (F1:=[]) (F2:=[]) (e 1) (gF (F1:=[]) (F2:=[]) (e 1) (gF (F1:=[]) (F2:=[]) (e 25) (ee (ee gE))))⟩
def r0(s:bJ)(wide:Int):bJ×Int:=
 if cu s=false then(Tk,6)else if wide<1∨wide>6 then(s,2)else if 3<=s.bc.length then(s,5)else(⟨s.bc++[wide],s.aF++[[]],s.aK,s.now,s.keep⟩,0)
theorem vt(hp:bV pr)(s:bJ)(wide:Int)(ht:s.d.eX<=1048576):lu pr 80 [s.enc,i64 wide] [(r0 s wide).1.da,.i (r0 s wide).2]:=by
 have dt:=jS hp s ht;have Ed:=lV hp s ht;have aN:r0 s wide=r0 s wide:=rfl;conv at aN=>rhs;unfold r0
 generalize r0 s wide=res at aN⊢;obtain⟨bc,aF,aK,now,keep⟩:=s;refine fN hp rfl ?_;have S:ah [] []:=ah.nil [];conv=>whnf
 intro k1 a1 dw dC;replace S:=S.alloc dw dC;conv=>whnf
 intro k2 a2 jf iB;replace S:=S.alloc jf iB;conv=>whnf
 refine aI (S.row 1 rfl) ?_;conv=>whnf
 refine⟨_,dt _,?_⟩;conv=>whnf
 cases jK:cu ⟨bc,aF,aK,now,keep⟩with
 |false=>
  rw[jK]at aN;rw[if_pos rfl]at aN;subst aN;conv=>whnf
  refine⟨_,rfl,rfl,rfl,.inl ⟨_,S.row 0 rfl,rfl,?_⟩⟩;conv=>whnf
  intro a3 lS;replace S:=S.w0 lS;conv=>whnf
  exact⟨_,aR rfl rfl (S.row 0 rfl) rfl rfl,_,_,_,rfl,eW (vq _) (nk 6),by simp⟩
 |true=>
  rw[jK,if_neg (by simp)]at aN;dsimp only at aN;conv=>whnf
  refine aI (S.row 1 rfl) ?_;conv=>whnf
  refine ek S Ed rfl rfl fun v q1 F1 o1 S1=>?_;clear S Ed dt o1;obtain⟨W,T,V,G1,G2,G3,rfl,cW,cT,cV,S⟩:=ah.gT S1;clear S1;conv=>whnf
  intro k3 a4 kS jN;replace S:=S.alloc kS jN;conv=>whnf
  refine⟨[W,T,V,i64 now,i64 keep],(by kernel_rfl),rfl,(bC cW (bC cT (bC cV rfl))),.inl ⟨_,S.row 0 rfl,rfl,?_⟩⟩;conv=>whnf
  intro b1 eN;replace S:=S.w0 eN;conv=>whnf
  refine ae (fun g1=>?_) (fun g1=>?_)
  ·rw[if_pos (.inl (by simpa using g1))]at aN;subst aN;conv=>whnf
   refine aI (S.row 0 rfl) ?_;conv=>whnf
   refine⟨[W,T,V,i64 now,i64 keep],(by kernel_rfl),rfl,(bC cW (bC cT (bC cV rfl))),.inl ⟨_,S.row 4 rfl,rfl,?_⟩⟩;conv=>whnf
   intro b2 dB;replace S:=S.w4 dB;conv=>whnf
   exact⟨_,aR rfl rfl (S.row 4 rfl) rfl rfl,_,_,_,rfl,kV (ah.fZ (S.drop 0)) 2⟩
  ·conv=>whnf
   refine ae (fun g2=>?_) (fun g2=>?_)
   ·rw[if_pos (.inr (by simpa using g2))]at aN;subst aN;conv=>whnf
    refine aI (S.row 0 rfl) ?_;conv=>whnf
    refine⟨[W,T,V,i64 now,i64 keep],(by kernel_rfl),rfl,(bC cW (bC cT (bC cV rfl))),.inl ⟨_,S.row 4 rfl,rfl,?_⟩⟩;conv=>whnf
    intro b2 dB;replace S:=S.w4 dB;conv=>whnf
    exact⟨_,aR rfl rfl (S.row 4 rfl) rfl rfl,_,_,_,rfl,kV (ah.fZ (S.drop 0)) 2⟩
   ·rw[if_neg (by intro h;simp at g1 g2;omega)]at aN;conv=>whnf
    refine aI (S.row 0 rfl) ?_;conv=>whnf
    have hW:(W= .nil/\bc=[])∨ ∃id,W= .own id 0 bc.length:=by
     have:=bP.GZ (show bP b1 (.a 1 (bc.map ba.i)) W G1 from S.get 1 rfl);rcases this.2 with rfl|⟨id,rfl⟩
     ·have h0:=this.1;simp only[bP]at h0;rcases h0 with⟨h1,_⟩|⟨id,_,_,h,_⟩
      ·exact .inl ⟨rfl,by simpa using h1⟩
      ·cases h
     ·exact .inr ⟨id,by simp⟩
    have Yi:bc.length<=3:=by simp only[cu,aj,decide_eq_true_iff]at jK;exact jK.1
    have Kv:aF.length<=3:=by simp only[cu,aj,decide_eq_true_iff]at jK;have:=jK.2.1;omega
    rcases hW with⟨rfl,rfl⟩|⟨id,rfl⟩
    ·rw[if_neg (by simp)]at aN;subst aN;conv=>whnf
     refine aI (S.row 0 rfl) ?_;conv=>whnf
     replace S:=S.q1;replace S:=ah.JD S;replace S:=(ah.vp (d:=.i wide) (fun _=>nk wide) S).swap;intro nM nN de dg;replace S:=S.alloc de dg;conv=>whnf
     refine⟨trivial,?_⟩;conv=>whnf
     refine⟨[_],bG (S.row 0 rfl),cQ rfl rfl,?_⟩;replace S:=S.drop 0;dsimp only[List.eraseIdx]at S;refine jM (sz:=1) (d:=.i wide) S (by first|(simp[br];done)|(simp[br];omega)) fun k5 h5 F5 S2=>?_;clear S;have S:=S2;clear S2;conv=>whnf
     refine⟨_,rfl,rfl,rfl,.inl ⟨_,S.row 1 rfl,rfl,?_⟩⟩;conv=>whnf
     intro b3 gg;replace S:=S.w1 gg;conv=>whnf
     refine aI (S.row 1 rfl) ?_;conv=>whnf
     replace S:=ah.pH S;replace S:=S.q2;replace S:=ah.JD S;replace S:=(ah.vp (d:=aE.da []) (fun _=>by unfold aE.da bP;exact .inl ⟨rfl,rfl,rfl⟩) S).swap;intro nM nN de dg;replace S:=S.alloc de dg;conv=>whnf
     refine⟨trivial,?_⟩;conv=>whnf
     refine⟨[_],bG (S.row 0 rfl),cQ rfl rfl,?_⟩;replace S:=S.drop 0;dsimp only[List.eraseIdx]at S;refine jM (sz:=1) (d:=aE.da []) S (by simp[br];omega) fun k6 h6 F6 S2=>?_;clear S;have S:=S2;clear S2;conv=>whnf
     refine⟨_,rfl,rfl,rfl,.inl ⟨_,S.row 2 rfl,rfl,?_⟩⟩;conv=>whnf
     intro b4 iH;replace S:=S.w2 iH;conv=>whnf
     refine aI (S.row 2 rfl) ?_;conv=>whnf
     refine⟨_,rfl,rfl,(bC rfl (bC rfl (bC cV rfl))),.inl ⟨_,S.row 4 rfl,rfl,?_⟩⟩;conv=>whnf
     intro b5 iZ;replace S:=S.w4 iZ;conv=>whnf
     replace S:=ah.pH S;replace S:=S.swap;rw[show(([]:List Int).map ba.i++[ba.i wide])=([]++[wide]).map ba.i by simp,show(aF.map aE.da++[aE.da []])=(aF++[[]]).map aE.da by simp]at S;exact⟨_,aR rfl rfl (S.row 4 rfl) rfl rfl,_,_,_,rfl,kV (ah.fZ (S.drop 2)) 0⟩
    ·conv=>whnf
     refine ae (fun g3=>?_) (fun g3=>?_)
     ·rw[if_pos (by simp at g3;omega)]at aN;subst aN;conv=>whnf
      refine aI (S.row 0 rfl) ?_;conv=>whnf
      refine⟨[.own id 0 bc.length,T,V,i64 now,i64 keep],(by kernel_rfl),rfl,(bC cW (bC cT (bC cV rfl))),.inl ⟨_,S.row 4 rfl,rfl,?_⟩⟩;conv=>whnf
      intro b2 dB;replace S:=S.w4 dB;conv=>whnf
      exact⟨_,aR rfl rfl (S.row 4 rfl) rfl rfl,_,_,_,rfl,kV (ah.fZ (S.drop 0)) 5⟩
     ·rw[if_neg (by simp at g3;omega)]at aN;subst aN;conv=>whnf
      refine aI (S.row 0 rfl) ?_;conv=>whnf
      replace S:=S.q1;replace S:=ah.JD S;replace S:=(ah.vp (d:=.i wide) (fun _=>nk wide) S).swap;intro nM nN de dg;replace S:=S.alloc de dg;conv=>whnf
      refine⟨trivial,?_⟩;conv=>whnf
      refine⟨[_],bG (S.row 0 rfl),cQ rfl rfl,?_⟩;replace S:=S.drop 0;dsimp only[List.eraseIdx]at S;refine jM (sz:=1) (d:=.i wide) S (by first|(simp[br];done)|(simp[br];omega)) fun k5 h5 F5 S2=>?_;clear S;have S:=S2;clear S2;conv=>whnf
      refine⟨_,rfl,rfl,rfl,.inl ⟨_,S.row 1 rfl,rfl,?_⟩⟩;conv=>whnf
      intro b3 gg;replace S:=S.w1 gg;conv=>whnf
      refine aI (S.row 1 rfl) ?_;conv=>whnf
      replace S:=ah.pH S;replace S:=S.q2;replace S:=ah.JD S;replace S:=(ah.vp (d:=aE.da []) (fun _=>by unfold aE.da bP;exact .inl ⟨rfl,rfl,rfl⟩) S).swap;intro nM nN de dg;replace S:=S.alloc de dg;conv=>whnf
      refine⟨trivial,?_⟩;conv=>whnf
      refine⟨[_],bG (S.row 0 rfl),cQ rfl rfl,?_⟩;replace S:=S.drop 0;dsimp only[List.eraseIdx]at S;refine jM (sz:=1) (d:=aE.da []) S (by simp[br];omega) fun k6 h6 F6 S2=>?_;clear S;have S:=S2;clear S2;conv=>whnf
      refine⟨_,rfl,rfl,rfl,.inl ⟨_,S.row 2 rfl,rfl,?_⟩⟩;conv=>whnf
      intro b4 iH;replace S:=S.w2 iH;conv=>whnf
      refine aI (S.row 2 rfl) ?_;conv=>whnf
      refine⟨_,rfl,rfl,(bC rfl (bC rfl (bC cV rfl))),.inl ⟨_,S.row 4 rfl,rfl,?_⟩⟩;conv=>whnf
      intro b5 iZ;replace S:=S.w4 iZ;conv=>whnf
      replace S:=ah.pH S;replace S:=S.swap;rw[show(bc.map ba.i++[ba.i wide])=(bc++[wide]).map ba.i by simp,show(aF.map aE.da++[aE.da []])=(aF++[[]]).map aE.da by simp]at S;exact⟨_,aR rfl rfl (S.row 4 rfl) rfl rfl,_,_,_,rfl,kV (ah.fZ (S.drop 2)) 0⟩
theorem ah.Lf{h:aC}{Q:List Chunk}{aw n:Int}{aA:Test}{cells:List Cell}{a b:Int}{ao:List Int}{agg col:Int}{al:List ax}{l r:List (List Item)}{ks:List bA}{bF:Int}{base:List Item}{aZ:List cC}{v:af}{F:List Nat}
  (S:ah h (.cU (View.da ⟨.mk (.mk aw n aA cells a b ao agg col al) l r ks,bF,base,aZ⟩) v F::Q)):
  ∃C K D L R KS B P F1 F2 F3,v= .agg (bB aw n aA C a b K agg col D [L,R,KS,i64 bF,B,P])/\(bB aw n aA C a b K agg col D [L,R,KS]).all af.bE=true/\B.bE=true/\P.bE=true/\
   ah h (.cU (bA.mk (.mk aw n aA cells a b ao agg col al) l r ks).d (.agg (bB aw n aA C a b K agg col D [L,R,KS])) F1:: .cU (aE.d base) B F2:: .cU (.a 2 (aZ.map cC.d)) P F3::Q):=by
    obtain⟨vv,rfl,hu⟩:=gx.1 (show bP h _ v F from S.get 0 rfl);rw[ep]at hu;obtain⟨vf,us,H1,H2,rfl,rfl,h1,h2⟩:=hu;obtain⟨C,K,D,L,R,KS,rfl,hc⟩:=nC h1;obtain⟨w2,rfl,h3⟩:=ni.1 h2;obtain⟨B,u3,H3,G3,rfl,rfl,g3,h4⟩:=kD.1 h3;obtain⟨P,u4,H4,G4,rfl,rfl,g4,h5⟩:=rS.1 h4;obtain⟨rfl,rfl⟩:=eL.1 h5;refine⟨C,K,D,L,R,KS,B,P,H1,H3,H4,rfl,hc,g3.cell.2,g4.sZ.2,S.O3 [.cU (bA.mk (.mk aw n aA cells a b ao agg col al) l r ks).d (.agg (bB aw n aA C a b K agg col D [L,R,KS])) H1,.cU (aE.d base) B H3,.cU (.a 2 (aZ.map cC.d)) P H4] (by simp[Chunk.cU]) ?_⟩;intro d hd;simp only[aW,List.not_mem_nil,or_false]at hd;rcases hd with rfl|rfl|rfl
    ·exact h1
    ·exact g3
    ·exact g4
theorem ah.AE{h:aC}{L:List Chunk}{sz:Nat}{xs:List ba}{v:af}{F:List Nat}(s:ah h (.cU (.a sz xs) v F::L)):(xs=[]/\v= .nil/\ah h L)∨ ∃id vs Fs,v= .own id 0 xs.length/\F=id::Fs/\ah h (.row id (.arr sz vs):: .dy xs vs Fs::L):=by
 have hA:=bP.GZ (show bP h (.a sz xs) v F from s.get 0 rfl);have s2:=s.is (c':=.cU (.s sz xs) v F) hA.1 rfl;rcases ah.open s2 with⟨h1,h2,h3⟩|h
 ·rcases hA.2 with rfl|⟨id,rfl⟩
  ·exact .inl ⟨h1,rfl,h3⟩
  ·rcases h2 with h2|h2<;>cases h2
 ·exact .inr h
theorem ah.qH{h:aC}{L:List Chunk}{sz n id:Nat}{xs:List ba}{vs:List af}{Fs:List Nat}(s:ah h (.row id (.arr sz vs):: .dy xs vs Fs::L))(hn:n=xs.length):ah h (.cU (.a sz xs) (.own id 0 n) (id::Fs)::L):=ah.pH (ah.iV s hn)
theorem Br{α:Type}{f:α->ba}{h:aC}{sz:Nat}{xs:List α}{v:af}{F:List Nat}(ho:bP h (.a sz (xs.map f)) v F):(v= .nil/\xs=[])∨ ∃id,v= .own id 0 xs.length:=by
 simp only[bP]at ho;rcases ho with⟨h1,_,rfl⟩|⟨id,_,_,rfl,_⟩
 ·exact .inl ⟨rfl,by simpa using h1⟩
 ·exact .inr ⟨id,by simp⟩
def wR(v:View)(fuel:Int):View:=⟨(i0 v.fM fuel).1,v.bF,v.base,v.aZ⟩
def qI(s:bJ)(view fuel:Int):bJ×Int:=
 if cu s=false then(Tk,6)else if view<0∨(view>=s.aK.length∨fuel<0)then(s,1)else
  (⟨s.bc,s.aF,s.aK.take view.toNat++((s.aK.drop view.toNat).take 1).map (wR · fuel)++s.aK.drop (view.toNat+1),s.now,s.keep⟩,0)
theorem DX(hp:bV pr)(s:bJ)(view fuel:Int)(ht:s.d.eX<=1048576)(cY:cu s=true-> ∀v∈s.aK,∃w,lA s.bc 6 v.fM w/\many 6 v.fM.dx<=10):lu pr 84 [s.enc,i64 view,i64 fuel] [(qI s view fuel).1.da,.i (qI s view fuel).2]:=by
 have dt:=jS hp s ht;have Ed:=lV hp s ht;have aN:qI s view fuel=qI s view fuel:=rfl;conv at aN=>rhs;unfold qI
 generalize qI s view fuel=res at aN⊢;have xT: ∀v∈s.aK,v.d.eX<=1048576:=fun v hv=>by have:=d5 s;have:=ed (f:=View.d) hv;omega
 obtain⟨bc,aF,aK,now,keep⟩:=s;refine fN hp rfl ?_;have S:ah [] []:=ah.nil [];conv=>whnf
 intro k1 a1 dw dC;replace S:=S.alloc dw dC;conv=>whnf
 intro k2 a2 jf iB;replace S:=S.alloc jf iB;conv=>whnf
 refine aI (S.row 1 rfl) ?_;conv=>whnf
 refine⟨_,dt _,?_⟩;conv=>whnf
 cases jK:cu ⟨bc,aF,aK,now,keep⟩with
 |false=>
  rw[jK]at aN;rw[if_pos rfl]at aN;subst aN;conv=>whnf
  refine⟨_,rfl,rfl,rfl,.inl ⟨_,S.row 0 rfl,rfl,?_⟩⟩;conv=>whnf
  intro a3 lS;replace S:=S.w0 lS;conv=>whnf
  exact⟨_,aR rfl rfl (S.row 0 rfl) rfl rfl,_,_,_,rfl,eW (vq _) (nk 6),by simp⟩
 |true=>
  rw[jK,if_neg (by simp)]at aN;dsimp only at aN;have cY:=cY jK;dsimp only at cY xT;conv=>whnf
  refine aI (S.row 1 rfl) ?_;conv=>whnf
  refine ek S Ed rfl rfl fun v q1 F1 o1 S1=>?_;clear S Ed dt o1;obtain⟨W,T,V,G1,G2,G3,rfl,cW,cT,cV,S⟩:=ah.gT S1;clear S1;conv=>whnf
  intro k3 a4 kS jN;replace S:=S.alloc kS jN;conv=>whnf
  refine⟨[W,T,V,i64 now,i64 keep],(by kernel_rfl),rfl,(bC cW (bC cT (bC cV rfl))),.inl ⟨_,S.row 0 rfl,rfl,?_⟩⟩;conv=>whnf
  intro b1 eN;replace S:=S.w0 eN;conv=>whnf
  refine ae (fun g1=>?_) (fun g1=>?_)
  ·rw[if_pos (.inl (by simpa using g1))]at aN;subst aN;conv=>whnf
   refine aI (S.row 0 rfl) ?_;conv=>whnf
   refine⟨[W,T,V,i64 now,i64 keep],(by kernel_rfl),rfl,(bC cW (bC cT (bC cV rfl))),.inl ⟨_,S.row 4 rfl,rfl,?_⟩⟩;conv=>whnf
   intro b2 dB;replace S:=S.w4 dB;conv=>whnf
   exact⟨_,aR rfl rfl (S.row 4 rfl) rfl rfl,_,_,_,rfl,kV (ah.fZ (S.drop 0)) 1⟩
  ·conv=>whnf
   refine aI (S.row 0 rfl) ?_;conv=>whnf
   rcases Br (show bP b1 (.a 25 (aK.map View.da)) V G3 from S.get 3 rfl)with⟨rfl,rfl⟩|⟨id,rfl⟩
   ·conv=>whnf
    refine ae (fun g2=>?_) (fun g2=>?_)
    ·rw[if_pos (.inr (.inl (by simp at g1⊢;omega)))]at aN;subst aN;conv=>whnf
     refine aI (S.row 0 rfl) ?_;conv=>whnf
     refine⟨[W,T,.nil,i64 now,i64 keep],(by kernel_rfl),rfl,(bC cW (bC cT (bC cV rfl))),.inl ⟨_,S.row 4 rfl,rfl,?_⟩⟩;conv=>whnf
     intro b2 dB;replace S:=S.w4 dB;conv=>whnf
     exact⟨_,aR rfl rfl (S.row 4 rfl) rfl rfl,_,_,_,rfl,kV (ah.fZ (S.drop 0)) 1⟩
    ·exfalso;simp at g1 g2;omega
   ·conv=>whnf
    refine ae (fun g2=>?_) (fun g2=>?_)
    ·rw[if_pos (.inr (.inl (by simpa using g2)))]at aN;subst aN;conv=>whnf
     refine aI (S.row 0 rfl) ?_;conv=>whnf
     refine⟨[W,T,.own id 0 aK.length,i64 now,i64 keep],(by kernel_rfl),rfl,(bC cW (bC cT (bC cV rfl))),.inl ⟨_,S.row 4 rfl,rfl,?_⟩⟩;conv=>whnf
     intro b2 dB;replace S:=S.w4 dB;conv=>whnf
     exact⟨_,aR rfl rfl (S.row 4 rfl) rfl rfl,_,_,_,rfl,kV (ah.fZ (S.drop 0)) 1⟩
    ·conv=>whnf
     refine ae (fun g3=>?_) (fun g3=>?_)
     ·rw[if_pos (.inr (.inr (by simpa using g3)))]at aN;subst aN;conv=>whnf
      refine aI (S.row 0 rfl) ?_;conv=>whnf
      refine⟨[W,T,.own id 0 aK.length,i64 now,i64 keep],(by kernel_rfl),rfl,(bC cW (bC cT (bC cV rfl))),.inl ⟨_,S.row 4 rfl,rfl,?_⟩⟩;conv=>whnf
      intro b2 dB;replace S:=S.w4 dB;conv=>whnf
      exact⟨_,aR rfl rfl (S.row 4 rfl) rfl rfl,_,_,_,rfl,kV (ah.fZ (S.drop 0)) 1⟩
     ·rw[if_neg (by intro h;simp at g1 g2 g3;omega)]at aN;obtain⟨j,rfl⟩: ∃j:Nat,view=(j:Int):=⟨view.toNat,by simp at g1;omega⟩;have bq:j<aK.length:=by simp at g2;omega
      have SU:aK=aK.take j++aK[j]::aK.drop (j+1):=by rw[<-ar bq,List.take_append_drop]
      have lJ:(aK.drop j).take 1=[aK[j]]:=by rw[ar bq];rfl
      have Xm:(aK.take j).length=j:=by simp;omega
      have hlen:(aK.take j++aK[j]::aK.drop (j+1)).length=aK.length:=by rw[<-SU]
      obtain⟨w,kP,Xn⟩:=cY _ (ay bq);have aan:=xT _ (ay bq);rw[aq,lJ]at aN;rw[show aK.map View.da=(aK.take j++aK[j]::aK.drop (j+1)).map View.da by rw[<-SU]]at S;generalize aK.take j=VA at aN S Xm hlen;generalize aK.drop (j+1)=VB at aN S hlen;generalize aK[j]=vw at aN S hlen kP Xn aan;clear SU lJ cY xT;obtain⟨⟨⟨aw,n,aA,cells,a,b,ao,agg,col,al⟩,l,r,ks⟩,bF,base,aZ⟩:=vw;rw[bd,aM]at S;replace S:=S.q3;rcases ah.AE S with⟨hx,_,_⟩|⟨yu,vs,Fs,cq,rfl,S1⟩
      ·simp at hx
      injection cq with rW _ DT;subst rW;obtain⟨XA,xv,XB,FA,G,FB,rfl,UX,S2⟩:=ah.Cq S1.swap;clear S S1;obtain⟨C,K,D,L,R,KS,B,P,H1,H2,H3,rfl,rq,cB,cP,S⟩:=ah.Lf S2;clear S2;have vu:XA.length=j:=by rw[UX,aO,Xm]
      have qQ:(XA++af.agg (bB aw n aA C a b K agg col D [L,R,KS,i64 bF,B,P])::XB)[0+((j:Nat):Int).toNat]?=some (af.agg (bB aw n aA C a b K agg col D [L,R,KS,i64 bF,B,P])):=by
       rw[bg,aq,<-vu];simp
      dsimp only[bA.dx]at kP Xn;conv=>whnf
      refine aI (S.row 6 rfl) ?_;conv=>whnf
      refine⟨_,S.row 5 rfl,⟨by omega,by omega⟩,?_⟩;conv=>whnf
      refine .inr ⟨_,_,_,S.row 5 rfl,qQ,?_⟩;conv=>whnf
      obtain⟨v2,d2,G4,BF,hc,lB,S3⟩:=MZ hp 6 (by omega) aw n aA cells a b ao agg col al l r ks w kP fuel _ _ _ _ _ (vg _) S;refine⟨_,hc,?_⟩;clear hc S;have S:=S3;clear S3;have eM:=Az 6 _ w fuel kP;have Qc:=JI 6 _ _ eM;have xX:=rV 6 _ _ eM;rw[oB]at Qc;simp only[aM,List.map_nil,wR,List.append_assoc,List.singleton_append]at aN;generalize Y6:i0 (.mk (.mk aw n aA cells a b ao agg col al) l r ks) fuel=mf at aN lB eM Qc xX⊢;have yt:mf.1.dx= .mk aw n aA cells a b ao agg col al:=by rw[<-Y6];exact oB _ _
      obtain⟨⟨p2,l2,r2,ks2⟩,VG⟩:=mf;dsimp only[bA.dx]at aN lB eM Qc xX yt⊢;subst yt;have Xo:=GS hp _ (show(bA.mk (.mk aw n aA cells a b ao agg col al) l2 r2 ks2).d.eX<=1048576 by omega);obtain⟨C2,K2,D2,L2,R2,qW,Xk,X1,X2,X3,P9,rfl,Av,y1,y2,y3,Sx⟩:=ah.s6 lB S;have c8:(bB aw n aA C2 a b K2 agg col D2 [L2,R2,qW]).all af.bE=true:=nU y1 y2 y3 (bC (show XR _ l2 L2 X1 from Sx.get 1 rfl).cell.2 (bC (show XR _ r2 R2 X2 from Sx.get 2 rfl).cell.2 (bC (show bP _ (.s 22 P9) qW X3 from Sx.get 3 rfl).cell.2 rfl)));clear Sx y1 y2 y3 Av;conv=>whnf
      intro k5 a5 DI qf;replace S:=S.alloc DI qf;conv=>whnf
      refine⟨(bB aw n aA C2 a b K2 agg col D2 [L2,R2,qW]),(by kernel_rfl),rfl,c8,.inl ⟨_,S.row 0 rfl,rfl,?_⟩⟩;conv=>whnf
      intro b5 iZ;replace S:=S.w0 iZ;conv=>whnf
      have Xp:Am.snap b5 (.agg (bB aw n aA C2 a b K2 agg col D2 [L2,R2,qW]))=some (bA.mk (.mk aw n aA cells a b ao agg col al) l2 r2 ks2).enc:=by
       have hd:=rT _ _ lB;rw[<-wN _ _ lB];exact bP.snap (show bP b5 d2 _ G4 from S.get 1 rfl) (by omega)
      refine aI (S.row 7 rfl) ?_;conv=>whnf
      refine aI (S.row 0 rfl) ?_;conv=>whnf
      refine ek S Xo rfl (bm Xp (dc _)) fun v9 q9 F9 o9 S9=>?_;clear S Xp Xo;have S:=S9;clear S9;obtain⟨C3,K3,D3,L3,R3,KS3,rfl,Hl⟩:=nC o9;clear o9;conv=>whnf
      refine⟨_,S.row 7 rfl,⟨by omega,by omega⟩,?_⟩;conv=>whnf
      refine⟨bB aw n aA C3 a b K3 agg col D3 [L3,R3,KS3],(by kernel_rfl),rfl,Hl,.inr ⟨_,_,_,S.row 7 rfl,qQ,?_⟩⟩;conv=>whnf
      intro b6 rU;replace S:=S.w7 rU;conv=>whnf
      rw[bg,aq,kO vu]at S;subst aN;refine aI (S.row 8 rfl) ?_;conv=>whnf
      refine⟨[W,T,.own id 0 aK.length,i64 now,i64 keep],(by kernel_rfl),rfl,(bC cW (bC cT (bC rfl rfl))),.inl ⟨_,S.row 11 rfl,rfl,?_⟩⟩;conv=>whnf
      intro b7 Hm;replace S:=S.Za Hm;conv=>whnf
      replace S:=(S.drop 1).drop 1;dsimp only[List.eraseIdx]at S;replace S:=ah.Bq (sA (bF:=bF) S);rw[<-aM,<-bd]at S;replace S:=ah.qH (n:=aK.length) S.swap (by rw[<-hlen];simp);replace S:=S.q3;replace S:=S.q3;exact⟨_,aR rfl rfl (S.row 4 rfl) rfl rfl,_,_,_,rfl,kV (ah.fZ S) 0⟩
end Go.Proofs.YtfepbikckfehlaaGreat

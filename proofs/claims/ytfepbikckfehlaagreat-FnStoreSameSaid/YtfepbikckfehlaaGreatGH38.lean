/- A store's view merged: the reference's. -/
import Derived.Test.YtfepbikckfehlaaGreatGH37
import Derived.Test.YtfepbikckfehlaaGreatGH26
import Derived.Test.YtfepbikckfehlaaGreatGH29
set_option linter.unusedVariables false
set_option linter.unusedSimpArgs false
set_option maxHeartbeats 4000000
namespace Go.Proofs.YtfepbikckfehlaaGreat
open Go Go.Am
set_option maxRecDepth 100000
theorem RY{d:Nat}: ∀{ks:List aA},(∀q∈ks,q.sz<=14*many d q)->aA.wu ks<=14*(ks.map (many d)).sum
 | [],_=>by simp[aA.wu]
 |k::ks,h=>by
  have h1:=h k (by simp);have h2:=RY (ks:=ks) fun q hq=>h q (by simp[hq]);simp only[aA.wu,aao,List.sum_cons];omega
theorem M1: ∀(d:Nat)(p:aA),form d p=true->p.sz<=14*many d p
 |0,p,h=>by simp[form]at h
 |d+1,.mk au n aD cells a b aq agg c ao,h=>by
  simp only[form,aA.au,aA.ao,xz,beq_iff_eq,aaj]at h;obtain⟨h1,h2,h3,h4⟩:=h;have h5:=RY fun q hq=>M1 d q (h4 q hq);simp only[clean,xz,Bool.or_eq_true,beq_iff_eq]at h2;obtain⟨_,_,hc,_,hk⟩:=h2
  have jM:cells.length<=6:=by
   rcases hc with rfl|hc
   ·simp[own,j9]at h3;omega
   ·simp at hc;simp[hc]
  have sd:aq.length<=5:=by
   rcases hk with rfl|hk
   ·simp[own,eU]at h3;omega
   ·have:=hk.1;simp at this;simp[this]
  have vF:ao.length<=2:=by
   unfold cU at h1
   repeat' split at h1
   all_goals omega
  simp only[aA.sz,many,aA.ao];omega
theorem Lv{p:aA}(h:fit p=true):p.sz<=140/\form 6 p=true/\many 6 p<=10:=by
 simp only[fit,xz,decide_eq_true_iff]at h;have:=M1 6 p h.1;exact⟨by omega,h.1,h.2⟩
theorem tB{x:Int}(h:1<=iD x):iD x=x/\1<=x/\x<=6:=by
 unfold iD at h⊢;split at h
 ·rename_i g;simp only[xz,decide_eq_true_iff]at g;rw[if_pos (by simp[g])];exact⟨rfl,g⟩
 ·omega
theorem I5(ws:List Int)(d:Nat)(p:aA):du ws d p<=6:=by
 cases d with
 |zero=>simp[du]
 |succ d=>
  obtain⟨au,n,aD,cells,a,b,aq,agg,c,ao⟩:=p;rw[du]
  repeat' split
  all_goals first|(have:=x6 (bU (.mk au n aD cells a b aq agg c ao) ws);omega)|omega|(rename_i l _;have:=x6 (bU (.mk au n aD cells a b aq agg c ao) l);omega)
theorem zu(p:aA):(iX p).ez=p:=by obtain⟨au,n,aD,cells,a,b,aq,agg,c,ao⟩:=p;rfl
theorem FL(ps:List aA):(fW ps).map bz.ez=ps:=by
 induction ps with
 |nil=>rfl
 |cons p ps ih=>simp only[fW,aao,zu,ih]
theorem jK{ws:List Int}: ∀(d:Nat)(p:aA),form d p=true->p.sz<=300->1<=du ws d p->mT ws d (iX p) (du ws d p)
 |0,p,h,_,_=>by simp[form]at h
 |d+1,.mk au n aD cells a b aq agg c ao,h,jP,hw=>by
  simp only[form,aA.au,aA.ao,xz,beq_iff_eq,aaj]at h;obtain⟨h1,h2,h3,h4⟩:=h;have tN:shaped (.mk au n aD cells a b aq agg c ao)=true:=by simp[shaped,aA.au,aA.ao,h1,h2]
  have vU: ∀q∈ao,q.sz<=300:=fun q hq=>by have:=EH hq;simp only[aA.sz]at jP;omega
  simp only[iX];have z7: ∀w:Int,∀z∈([]:List (List Item)),eB w z:=fun w z hz=>by simp at hz
  suffices hh: ∃wk:List Int,wk.length=(fW ao).length/\yp ws au n cells aq [] [] wk (du ws (d+1) (.mk au n aD cells a b aq agg c ao))/\ ∀(i:Nat) k v,(fW ao)[i]?=some k->wk[i]?=some v->mT ws d k v from
   ⟨jP,rfl,rfl,fun _=>rfl,fun _ _ _=>rfl,FL ao,hh⟩
  rcases fU au with rfl|rfl|rfl|rfl|rfl|rfl|rfl|⟨g1,g2,g3,g4,g5,g6,g7⟩
  ·have Pc:ao=[]:=aaM.1 (by simp[cU]at h1;omega);subst Pc;rw[du,if_pos tN,if_pos rfl]at hw⊢;obtain⟨e1,e2,e3⟩:=tB hw;rw[e1];simp only[bU,if_true]at e2⊢;split at e2
   ·rename_i g;rw[if_pos g];simp only[xz,decide_eq_true_iff]at g;refine⟨[],rfl,.inl ⟨rfl,g.1,rfl,?_⟩,fun i k v hk=>by simp[fW]at hk⟩;have:n.toNat<ws.length:=by omega
    simp[nth,this]
   ·omega
  ·obtain⟨q,rfl⟩:=Ir (show ao.length=1 by simp[cU]at h1;omega);rw[lD tN (by decide)]at hw⊢;split at hw
   ·omega
   rename_i hq;rw[if_neg hq];obtain⟨e1,e2,e3⟩:=tB hw;rw[e1];have KV:=jK (ws:=ws) d q (h4 q (by simp)) (vU q (by simp)) (by omega);rw[show bU (.mk 2 n aD cells a b aq agg c [q]) [du ws d q]=(if kZ aD (nth [du ws d q] 0)then nth [du ws d q] 0 else-1)from rfl]at e2⊢;split at e2
   ·rename_i g;rw[if_pos g];exact⟨[du ws d q],rfl,.inr (.inl ⟨rfl,rfl⟩),fun i k v hk hv=>by cases i with|zero=>simp[fW]at hk hv;subst hk hv;exact KV|succ i=>simp at hv⟩
   ·omega
  ·obtain⟨q,rfl⟩:=Ir (show ao.length=1 by simp[cU]at h1;omega);rw[lD tN (by decide)]at hw⊢;split at hw
   ·omega
   rename_i hq;rw[if_neg hq];obtain⟨e1,e2,e3⟩:=tB hw;rw[e1];have KV:=jK (ws:=ws) d q (h4 q (by simp)) (vU q (by simp)) (by omega);rw[show bU (.mk 3 n aD cells a b aq agg c [q]) [du ws d q]=(if decide (1<=cells.length)&&(decide (cells.length<=6)&&cells.all (fun c=>fe c (nth [du ws d q] 0)))then(cells.length:Int)else-1)from rfl]at e2⊢;split at e2
   ·rename_i g;rw[if_pos g];exact⟨[du ws d q],rfl,.inr (.inr (.inl ⟨rfl,rfl,rfl⟩)),fun i k v hk hv=>by cases i with|zero=>simp[fW]at hk hv;subst hk hv;exact KV|succ i=>simp at hv⟩
   ·omega
  ·obtain⟨q,q2,rfl⟩:=TS (show ao.length=2 by simp[cU]at h1;omega);rw[tU tN (by decide)]at hw⊢;split at hw
   ·omega
   rename_i hq;rw[if_neg hq];split at hw
   ·omega
   rename_i qD;rw[if_neg qD];obtain⟨e1,e2,e3⟩:=tB hw;rw[e1];have KV:=jK (ws:=ws) d q (h4 q (by simp)) (vU q (by simp)) (by omega);have WS:=jK (ws:=ws) d q2 (h4 q2 (by simp)) (vU q2 (by simp)) (by omega);have l1:=I5 ws d q;have l2:=I5 ws d q2;rw[show bU (.mk 4 n aD cells a b aq agg c [q,q2]) [du ws d q,du ws d q2]=(if col a (nth [du ws d q,du ws d q2] 0)&&col b (nth [du ws d q,du ws d q2] 1)then IntKind.i64.wrap (nth [du ws d q,du ws d q2] 0+nth [du ws d q,du ws d q2] 1)else-1)from rfl]at e2⊢;split at e2
   ·rename_i g;rw[if_pos g];refine⟨[du ws d q,du ws d q2],rfl,.inr (.inr (.inr (.inl ⟨rfl,du ws d q,du ws d q2,rfl,?_,z7 _,z7 _⟩))),fun i k v hk hv=>?_⟩
    ·show IntKind.i64.wrap (du ws d q+du ws d q2)=_;rw[aaC];omega
    ·match i,hk,hv with
     |0,hk,hv=>simp[fW]at hk hv;subst hk hv;exact KV
     |1,hk,hv=>simp[fW]at hk hv;subst hk hv;exact WS
     |i+2,hk,hv=>simp at hv
   ·omega
  ·obtain⟨q,q2,rfl⟩:=TS (show ao.length=2 by simp[cU]at h1;omega);rw[tU tN (by decide)]at hw⊢;split at hw
   ·omega
   rename_i hq;rw[if_neg hq];split at hw
   ·omega
   rename_i qD;rw[if_neg qD];obtain⟨e1,e2,e3⟩:=tB hw;rw[e1];have KV:=jK (ws:=ws) d q (h4 q (by simp)) (vU q (by simp)) (by omega);have WS:=jK (ws:=ws) d q2 (h4 q2 (by simp)) (vU q2 (by simp)) (by omega);rw[show bU (.mk 5 n aD cells a b aq agg c [q,q2]) [du ws d q,du ws d q2]=(if nth [du ws d q,du ws d q2] 0==nth [du ws d q,du ws d q2] 1 then nth [du ws d q,du ws d q2] 0 else-1)from rfl]at e2⊢;split at e2
   ·rename_i g;rw[if_pos g];have hEq:du ws d q=du ws d q2:=by simpa[nth]using g
    refine⟨[du ws d q,du ws d q2],rfl,.inr (.inr (.inr (.inr (.inl ⟨rfl,by rw[<-hEq];rfl⟩)))),fun i k v hk hv=>?_⟩
    match i,hk,hv with
    |0,hk,hv=>simp[fW]at hk hv;subst hk hv;exact KV
    |1,hk,hv=>simp[fW]at hk hv;subst hk hv;exact WS
    |i+2,hk,hv=>simp at hv
   ·omega
  ·obtain⟨q,rfl⟩:=Ir (show ao.length=1 by simp[cU]at h1;omega);rw[lD tN (by decide)]at hw⊢;split at hw
   ·omega
   rename_i hq;rw[if_neg hq];obtain⟨e1,e2,e3⟩:=tB hw;rw[e1];have KV:=jK (ws:=ws) d q (h4 q (by simp)) (vU q (by simp)) (by omega);rw[show bU (.mk 6 n aD cells a b aq agg c [q]) [du ws d q]=(nth [du ws d q] 0)from rfl]at e2⊢;exact⟨[du ws d q],rfl,.inr (.inr (.inr (.inr (.inr (.inl ⟨rfl,rfl,z7 _⟩))))),fun i k v hk hv=>by cases i with|zero=>simp[fW]at hk hv;subst hk hv;exact KV|succ i=>simp at hv⟩
  ·obtain⟨q,rfl⟩:=Ir (show ao.length=1 by simp[cU]at h1;omega);rw[lD tN (by decide)]at hw⊢;split at hw
   ·omega
   rename_i hq;rw[if_neg hq];obtain⟨e1,e2,e3⟩:=tB hw;rw[e1];have KV:=jK (ws:=ws) d q (h4 q (by simp)) (vU q (by simp)) (by omega);rw[show bU (.mk 7 n aD cells a b aq agg c [q]) [du ws d q]=(if decide (0<=agg)&&(decide (agg<=3)&&(eU aq (nth [du ws d q] 0)&&col c (nth [du ws d q] 0)))then(aq.length:Int)+1 else-1)from rfl]at e2⊢;split at e2
   ·rename_i g;rw[if_pos g];exact⟨[du ws d q],rfl,.inr (.inr (.inr (.inr (.inr (.inr ⟨rfl,rfl,_,rfl,z7 _⟩))))),fun i k v hk hv=>by cases i with|zero=>simp[fW]at hk hv;subst hk hv;exact KV|succ i=>simp at hv⟩
   ·omega
  ·exfalso;simp only[beq_eq_false_iff_ne,ne_eq]at g1 g2 g3 g4 g5 g6 g7;unfold cU at h1;rw[if_neg g1,if_neg (by omega),if_neg (by omega)]at h1;omega
theorem ns{α:Type}{f:α->α->Bool}: ∀{xs:List α},(∀x∈xs,f x x=true)->bZ f xs xs=true
 | [],_=>rfl
 |x::xs,h=>by
  have h1:=h x (by simp);have h2:=ns (f:=f) (xs:=xs) fun y hy=>h y (by simp[hy]);simp only[bZ,h1,h2,Bool.and_self]
theorem FQ: ∀(N:Nat)(p:aA),SizeOf.sizeOf p<=N->eY p p=true:=by
 intro N
 induction N with
 |zero=>intro p h;cases p;simp at h
 |succ N ih=>
  intro p hs;obtain⟨au,n,aD,cells,a,b,aq,agg,c,ao⟩:=p;simp only[eY,mO,aA.au,aA.n,aA.aD,aA.cells,aA.a,aA.b,aA.aq,aA.agg,aA.col,aA.ao,xz,beq_self_eq_true,true_and,and_true];refine⟨by simp[uR],ns fun x _=>by simp[kH],ns fun x _=>by simp,ns fun q hq=>ih q (by have:=abo hq;simp at hs;omega)⟩
theorem zw(p:aA):eY p p=true:=FQ _ p (aah _)
theorem I6{d:Nat}: ∀{ks:List bz},(∀k∈ks,ni d k=true)->nO d ks (ks.map bz.ez)=true
 | [],_=>by simp[nO]
 |k::ks,h=>by
  have h1:=h k (by simp);have h2:=I6 (d:=d) (ks:=ks) fun x hx=>h x (by simp[hx]);simp only[aao,nO,zw,h1,h2,Bool.and_self]
theorem z8{ws:List Int}: ∀(d:Nat)(f:bz)(w:Int),mT ws d f w->ni d f=true
 |0,f,w,h=>h.elim
 |d+1,.mk (.mk au n aD cells a b aq agg col qs) l r ks,w,h=>by
  obtain⟨h1,h2,h3,h4,h5,h6,wk,h7,h8,h9⟩:=h
  have hk:=I6 (d:=d) (ks:=ks) fun k hk=>by
   obtain⟨i,hi,rfl⟩:=List.mem_iff_getElem.1 hk;exact z8 d _ _ (h9 i _ wk[i] (aab hi) (aab (by omega)))
  rw[h6]at hk;have hlen:ks.length=qs.length:=by rw[<-h6,aat]
  simp only[ni,aA.ao,aA.au,hlen,beq_self_eq_true,hk,Bool.and_true,aay,kO,h2,h3];show((!decide (js au<=0)||l.isEmpty)&&(!decide (js au<=1)||r.isEmpty))=true
  by_cases k4:au=4
  ·have e:js au=2:=by simp[js,k4]
   simp[e]
  ·by_cases k67:au=6∨au=7
   ·have e:js au=1:=by simp[js,k4,k67]
    simp[e,h4 k4]
   ·have e:js au=0:=by simp[js,k4,k67]
    simp[e,h4 k4,h5 k4 (by omega) (by omega)]
theorem yq{z:List Item}(h:dS z=true):(aI.d z).fA<=700:=by
 have h1:=dA h
 have key: ∀xs:List Item,(∀x∈xs,x.row.length<=6)->bg.fV (xs.map Item.d)<=6*xs.length:=by
  intro xs
  induction xs with
  |nil=>intro _;simp[bg.fV]
  |cons x xs ih=>
   intro hx;have:=ih fun y hy=>hx y (by simp[hy]);have h2:=hx x (by simp);simp only[aao,bg.fV,Item.fA,aak];omega
 have:=key z h1.2;simp only[aI.d,bg.fA,aat];omega
theorem B4{l:List (List Item)}(hz: ∀z∈l,dS z=true):(bX.d l).fA<=701*l.length:=by
 have key: ∀xs:List (List Item),(∀x∈xs,dS x=true)->bg.fV (xs.map aI.d)<=700*xs.length:=by
  intro xs
  induction xs with
  |nil=>intro _;simp[bg.fV]
  |cons x xs ih=>
   intro hx;have:=ih fun y hy=>hx y (by simp[hy]);have h2:=yq (hx x (by simp));simp only[aao,bg.fV,aak];omega
 have:=key l hz;simp only[bX.d,bg.fA,aat];omega
theorem I7{d:Nat}: ∀{ks:List bz},(∀k∈ks,k.d.fA<=7500*many d k.ez)->bg.fV (ks.map bz.d)<=7500*((ks.map bz.ez).map (many d)).sum
 | [],_=>by simp[bg.fV]
 |k::ks,h=>by
  have h1:=h k (by simp);have h2:=I7 (ks:=ks) fun q hq=>h q (by simp[hq]);simp only[bg.fV,aao,List.sum_cons];omega
theorem Lw{ws:List Int}: ∀(d:Nat)(f:bz)(w:Int),mT ws d f w->f.d.fA<=7500*many d f.ez
 |0,f,w,h=>h.elim
 |d+1,.mk (.mk au n aD cells a b aq agg col qs) l r ks,w,h=>by
  obtain⟨h1,h2,h3,h4,h5,h6,wk,h7,h8,h9⟩:=h
  have hk:=I7 (d:=d) (ks:=ks) fun k hk=>by
   obtain⟨i,hi,rfl⟩:=List.mem_iff_getElem.1 hk;exact Lw d _ _ (h9 i _ wk[i] (aab hi) (aab (by omega)))
  have hl:=eo h2;have hr:=eo h3;have tl:=B4 hl.2;have tr:=B4 hr.2;have:=(rY h8).2.2.2.2;rw[jY];simp only[bz.ez,many,aA.ao];rw[h6]at hk;omega
end Go.Proofs.YtfepbikckfehlaaGreat
set_option maxHeartbeats 4000000
namespace Go.Proofs.YtfepbikckfehlaaGreat
open Go Go.Am
variable{pr:bW}(hp:cF pr)
set_option maxRecDepth 100000
theorem aj.iZ{h:aG}{Q:List Chunk}{bc:List Int}{aH:List (List Item)}{aL:List View}{now keep:Int}{v:af}{F:List Nat}(S:aj h (.dL (bN.da ⟨bc,aH,aL,now,keep⟩) v F::Q)):
  ∃W T V F1 F2 F3,v= .agg [W,T,V,i64 now,i64 keep]/\W.bQ=true/\T.bQ=true/\V.bQ=true/\aj h (.dL (.a 1 (bc.map bg.i)) W F1:: .dL (.a 1 (aH.map aI.da)) T F2:: .dL (.a 25 (aL.map View.da)) V F3::Q):=by
   have ho:cq h _ v F:=S.get 0 rfl;obtain⟨vv,rfl,hu⟩:=iF.1 ho;obtain⟨W,u1,H1,G1,rfl,rfl,g1,h2⟩:=tj.1 hu;obtain⟨T,u2,H2,G2,rfl,rfl,g2,h3⟩:=tj.1 h2;obtain⟨V,u3,H3,G3,rfl,rfl,g3,h4⟩:=tj.1 h3;obtain⟨w4,rfl,h5⟩:=pc.1 h4;obtain⟨w5,rfl,h6⟩:=pc.1 h5;obtain⟨rfl,rfl⟩:=fO.1 h6;refine⟨W,T,V,H1,H2,H3,rfl,g1.uB.2,g2.uB.2,g3.uB.2,S.Q2 [.dL (.a 1 (bc.map bg.i)) W H1,.dL (.a 1 (aH.map aI.da)) T H2,.dL (.a 25 (aL.map View.da)) V H3] (by simp[Chunk.dL]) ?_⟩;intro d hd;simp only[aaz,List.not_mem_nil,or_false]at hd;rcases hd with rfl|rfl|rfl
   ·exact g1
   ·exact g2
   ·exact g3
theorem aj.ik{h:aG}{Q:List Chunk}{bc:List Int}{aH:List (List Item)}{aL:List View}{now keep:Int}{W T V:af}{F1 F2 F3:List Nat}(S:aj h (.dL (.a 1 (bc.map bg.i)) W F1:: .dL (.a 1 (aH.map aI.da)) T F2:: .dL (.a 25 (aL.map View.da)) V F3::Q)):
  aj h (.dL (bN.da ⟨bc,aH,aL,now,keep⟩) (.agg [W,T,V,i64 now,i64 keep]) (F1++(F2++(F3++[])))::Q):=by
   refine aj.U5 [.dL (.a 1 (bc.map bg.i)) W F1,.dL (.a 1 (aH.map aI.da)) T F2,.dL (.a 25 (aL.map View.da)) V F3] S ?_ (by simp[Chunk.dL]);exact iF.2 ⟨_,rfl,iM (S.get 0 rfl) (iM (S.get 1 rfl) (iM (S.get 2 rfl) (fh (fh iL))))⟩
theorem aj.xg{h:aG}{L:List Chunk}{d:bg}{v:af}(hd: ∀h,cq h d v [])(S:aj h L):aj h (.dL d v []::L):=S.more (aa2 _) (hd h) (by simp[Chunk.dL]) (by simp[Chunk.dL])
theorem mA{h:aG}{Q:List Chunk}{s:bN}{v:af}{F:List Nat}(S:aj h (.dL s.da v F::Q))(c:Int):cZ h [s.da,.i c] [v,i64 c] (F++[])/\(F++[]).Nodup:=
 ⟨iH (S.get 0 rfl) (uq c),by rw[aaw];exact(S.get' 0 _ rfl).2⟩
def U6:bN:=⟨[],[],[],0,0⟩
theorem xh(h:aG):cq h U6.da (.agg [.nil,.nil,.nil,i64 0,i64 0]) []:=by
 have e: ∀sz,cq h (.a sz []) .nil []:=fun sz=>by unfold cq;exact .inl ⟨rfl,rfl,rfl⟩
 exact iF.2 ⟨_,rfl,iM (F1:=[]) (F2:=[]) (e 1) (iM (F1:=[]) (F2:=[]) (e 1) (iM (F1:=[]) (F2:=[]) (e 25) (fh (fh iL))))⟩
def tC(s:bN)(wide:Int):bN×Int:=
 if dz s=false then(U6,6)else if wide<1∨wide>6 then(s,2)else if 3<=s.bc.length then(s,5)else(⟨s.bc++[wide],s.aH++[[]],s.aL,s.now,s.keep⟩,0)
theorem xi(hp:cF pr)(s:bN)(wide:Int)(ht:s.d.fA<=1048576):nc pr 80 [s.enc,i64 wide] [(tC s wide).1.da,.i (tC s wide).2]:=by
 have eb:=mQ hp s ht;have Gi:=nr hp s ht;have aQ:tC s wide=tC s wide:=rfl;conv at aQ=>rhs;unfold tC
 generalize tC s wide=res at aQ⊢;obtain⟨bc,aH,aL,now,keep⟩:=s;refine gT hp rfl ?_;have S:=aj.nil [];conv=>whnf
 intro k1 a1 eg er;replace S:=S.alloc eg er;conv=>whnf
 intro k2 a2 jS jb;replace S:=S.alloc jS jb;refine aC (S.row 1 rfl) ?_;conv=>whnf
 refine⟨_,eb _,?_⟩;conv=>whnf
 cases lf:dz ⟨bc,aH,aL,now,keep⟩with
 |false=>
  rw[lf]at aQ;rw[if_pos rfl]at aQ;subst aQ;conv=>whnf
  refine⟨_,rfl,rfl,rfl,.inl ⟨_,S.row 0 rfl,rfl,?_⟩⟩;conv=>whnf
  intro a3 nq;replace S:=S.w0 nq;conv=>whnf
  exact⟨_,aS rfl rfl (S.row 0 rfl) rfl rfl,_,_,_,rfl,iH (xh _) (uq 6),by simp⟩
 |true=>
  rw[lf,if_neg (by simp)]at aQ;dsimp only at aQ;refine aC (S.row 1 rfl) ?_;conv=>whnf
  refine fp S Gi rfl rfl fun v q1 F1 o1 S1=>?_;clear S Gi eb o1;obtain⟨W,T,V,G1,G2,G3,rfl,cW,cT,cV,S⟩:=aj.iZ S1;clear S1;conv=>whnf
  intro k3 a4 mF lI;replace S:=S.alloc mF lI;conv=>whnf
  refine⟨[W,T,V,i64 now,i64 keep],(by kernel_rfl),rfl,(bM cW (bM cT (bM cV rfl))),.inl ⟨_,S.row 0 rfl,rfl,?_⟩⟩;conv=>whnf
  intro b1 fw;replace S:=S.w0 fw;conv=>whnf
  refine ae (fun g1=>?_) (fun g1=>?_)
  ·rw[if_pos (.inl (by simpa using g1))]at aQ;subst aQ;refine aC (S.row 0 rfl) ?_;conv=>whnf
   refine⟨[W,T,V,i64 now,i64 keep],(by kernel_rfl),rfl,(bM cW (bM cT (bM cV rfl))),.inl ⟨_,S.row 4 rfl,rfl,?_⟩⟩;conv=>whnf
   intro b2 ea;replace S:=S.w4 ea;conv=>whnf
   exact⟨_,aS rfl rfl (S.row 4 rfl) rfl rfl,_,_,_,rfl,mA (aj.ik (S.drop 0)) 2⟩
  ·conv=>whnf
   refine ae (fun g2=>?_) (fun g2=>?_)
   ·rw[if_pos (.inr (by simpa using g2))]at aQ;subst aQ;refine aC (S.row 0 rfl) ?_;conv=>whnf
    refine⟨[W,T,V,i64 now,i64 keep],(by kernel_rfl),rfl,(bM cW (bM cT (bM cV rfl))),.inl ⟨_,S.row 4 rfl,rfl,?_⟩⟩;conv=>whnf
    intro b2 ea;replace S:=S.w4 ea;conv=>whnf
    exact⟨_,aS rfl rfl (S.row 4 rfl) rfl rfl,_,_,_,rfl,mA (aj.ik (S.drop 0)) 2⟩
   ·rw[if_neg (by intro h;simp at g1 g2;omega)]at aQ;refine aC (S.row 0 rfl) ?_;conv=>whnf
    have hW:(W= .nil/\bc=[])∨ ∃id,W= .own id 0 bc.length:=by
     have:=cq.IV (show cq b1 (.a 1 (bc.map bg.i)) W G1 from S.get 1 rfl);rcases this.2 with rfl|⟨id,rfl⟩
     ·have h0:=this.1;simp only[cq]at h0;rcases h0 with⟨h1,_⟩|⟨id,_,_,h,_⟩
      ·exact .inl ⟨rfl,by simpa using h1⟩
      ·cases h
     ·exact .inr ⟨id,by simp⟩
    have Z2:bc.length<=3:=by simp only[dz,xz,decide_eq_true_iff]at lf;exact lf.1
    have Mn:aH.length<=3:=by simp only[dz,xz,decide_eq_true_iff]at lf;have:=lf.2.1;omega
    rcases hW with⟨rfl,rfl⟩|⟨id,rfl⟩
    ·rw[if_neg (by simp)]at aQ;subst aQ;refine aC (S.row 0 rfl) ?_;conv=>whnf
     replace S:=S.q1;replace S:=aj.Ls S;replace S:=(aj.xg (d:=.i wide) (fun _=>uq wide) S).swap;intro pI pJ dT dU;replace S:=S.alloc dT dU;conv=>whnf
     refine⟨trivial,?_⟩;conv=>whnf
     refine⟨[_],bT (S.row 0 rfl),dI rfl rfl,?_⟩;replace S:=S.drop 0;dsimp only[List.eraseIdx]at S;refine lp (sz:=1) (d:=.i wide) S (by first|(simp[bB];done)|(simp[bB];omega)) fun k5 h5 F5 S2=>?_;clear S;have S:=S2;clear S2;conv=>whnf
     refine⟨_,rfl,rfl,rfl,.inl ⟨_,S.row 1 rfl,rfl,?_⟩⟩;conv=>whnf
     intro b3 fY;replace S:=S.w1 fY;refine aC (S.row 1 rfl) ?_;conv=>whnf
     replace S:=aj.qU S;replace S:=S.q2;replace S:=aj.Ls S;replace S:=(aj.xg (d:=aI.da []) (fun _=>by unfold aI.da cq;exact .inl ⟨rfl,rfl,rfl⟩) S).swap;intro pI pJ dT dU;replace S:=S.alloc dT dU;conv=>whnf
     refine⟨trivial,?_⟩;conv=>whnf
     refine⟨[_],bT (S.row 0 rfl),dI rfl rfl,?_⟩;replace S:=S.drop 0;dsimp only[List.eraseIdx]at S;refine lp (sz:=1) (d:=aI.da []) S (by simp[bB];omega) fun k6 h6 F6 S2=>?_;clear S;have S:=S2;clear S2;conv=>whnf
     refine⟨_,rfl,rfl,rfl,.inl ⟨_,S.row 2 rfl,rfl,?_⟩⟩;conv=>whnf
     intro b4 gX;replace S:=S.w2 gX;refine aC (S.row 2 rfl) ?_;conv=>whnf
     refine⟨_,rfl,rfl,(bM rfl (bM rfl (bM cV rfl))),.inl ⟨_,S.row 4 rfl,rfl,?_⟩⟩;conv=>whnf
     intro b5 jF;replace S:=S.w4 jF;conv=>whnf
     replace S:=aj.qU S;replace S:=S.swap;rw[show(([]:List Int).map bg.i++[bg.i wide])=([]++[wide]).map bg.i by simp,show(aH.map aI.da++[aI.da []])=(aH++[[]]).map aI.da by simp]at S;exact⟨_,aS rfl rfl (S.row 4 rfl) rfl rfl,_,_,_,rfl,mA (aj.ik (S.drop 2)) 0⟩
    ·conv=>whnf
     refine ae (fun g3=>?_) (fun g3=>?_)
     ·rw[if_pos (by simp at g3;omega)]at aQ;subst aQ;refine aC (S.row 0 rfl) ?_;conv=>whnf
      refine⟨[.own id 0 bc.length,T,V,i64 now,i64 keep],(by kernel_rfl),rfl,(bM cW (bM cT (bM cV rfl))),.inl ⟨_,S.row 4 rfl,rfl,?_⟩⟩;conv=>whnf
      intro b2 ea;replace S:=S.w4 ea;conv=>whnf
      exact⟨_,aS rfl rfl (S.row 4 rfl) rfl rfl,_,_,_,rfl,mA (aj.ik (S.drop 0)) 5⟩
     ·rw[if_neg (by simp at g3;omega)]at aQ;subst aQ;refine aC (S.row 0 rfl) ?_;conv=>whnf
      replace S:=S.q1;replace S:=aj.Ls S;replace S:=(aj.xg (d:=.i wide) (fun _=>uq wide) S).swap;intro pI pJ dT dU;replace S:=S.alloc dT dU;conv=>whnf
      refine⟨trivial,?_⟩;conv=>whnf
      refine⟨[_],bT (S.row 0 rfl),dI rfl rfl,?_⟩;replace S:=S.drop 0;dsimp only[List.eraseIdx]at S;refine lp (sz:=1) (d:=.i wide) S (by first|(simp[bB];done)|(simp[bB];omega)) fun k5 h5 F5 S2=>?_;clear S;have S:=S2;clear S2;conv=>whnf
      refine⟨_,rfl,rfl,rfl,.inl ⟨_,S.row 1 rfl,rfl,?_⟩⟩;conv=>whnf
      intro b3 fY;replace S:=S.w1 fY;refine aC (S.row 1 rfl) ?_;conv=>whnf
      replace S:=aj.qU S;replace S:=S.q2;replace S:=aj.Ls S;replace S:=(aj.xg (d:=aI.da []) (fun _=>by unfold aI.da cq;exact .inl ⟨rfl,rfl,rfl⟩) S).swap;intro pI pJ dT dU;replace S:=S.alloc dT dU;conv=>whnf
      refine⟨trivial,?_⟩;conv=>whnf
      refine⟨[_],bT (S.row 0 rfl),dI rfl rfl,?_⟩;replace S:=S.drop 0;dsimp only[List.eraseIdx]at S;refine lp (sz:=1) (d:=aI.da []) S (by simp[bB];omega) fun k6 h6 F6 S2=>?_;clear S;have S:=S2;clear S2;conv=>whnf
      refine⟨_,rfl,rfl,rfl,.inl ⟨_,S.row 2 rfl,rfl,?_⟩⟩;conv=>whnf
      intro b4 gX;replace S:=S.w2 gX;refine aC (S.row 2 rfl) ?_;conv=>whnf
      refine⟨_,rfl,rfl,(bM rfl (bM rfl (bM cV rfl))),.inl ⟨_,S.row 4 rfl,rfl,?_⟩⟩;conv=>whnf
      intro b5 jF;replace S:=S.w4 jF;conv=>whnf
      replace S:=aj.qU S;replace S:=S.swap;rw[show(bc.map bg.i++[bg.i wide])=(bc++[wide]).map bg.i by simp,show(aH.map aI.da++[aI.da []])=(aH++[[]]).map aI.da by simp]at S;exact⟨_,aS rfl rfl (S.row 4 rfl) rfl rfl,_,_,_,rfl,mA (aj.ik (S.drop 2)) 0⟩
theorem aj.M3{h:aG}{Q:List Chunk}{au n:Int}{aD:Test}{cells:List Cell}{a b:Int}{aq:List Int}{agg col:Int}{ao:List aA}{l r:List (List Item)}{ks:List bz}{bO:Int}{base:List Item}{aZ:List dg}{v:af}{F:List Nat}
  (S:aj h (.dL (View.da ⟨.mk (.mk au n aD cells a b aq agg col ao) l r ks,bO,base,aZ⟩) v F::Q)):
  ∃C K D L R KS B P F1 F2 F3,v= .agg (bL au n aD C a b K agg col D [L,R,KS,i64 bO,B,P])/\(bL au n aD C a b K agg col D [L,R,KS]).all af.bQ=true/\B.bQ=true/\P.bQ=true/\
   aj h (.dL (bz.mk (.mk au n aD cells a b aq agg col ao) l r ks).d (.agg (bL au n aD C a b K agg col D [L,R,KS])) F1:: .dL (aI.d base) B F2:: .dL (.a 2 (aZ.map dg.d)) P F3::Q):=by
    obtain⟨vv,rfl,hu⟩:=iF.1 (show cq h _ v F from S.get 0 rfl);rw[fy]at hu;obtain⟨vf,us,H1,H2,rfl,rfl,h1,h2⟩:=hu;obtain⟨C,K,D,L,R,KS,rfl,hc⟩:=pz h1;obtain⟨w2,rfl,h3⟩:=pc.1 h2;obtain⟨B,u3,H3,G3,rfl,rfl,g3,h4⟩:=l6.1 h3;obtain⟨P,u4,H4,G4,rfl,rfl,g4,h5⟩:=tj.1 h4;obtain⟨rfl,rfl⟩:=fO.1 h5;refine⟨C,K,D,L,R,KS,B,P,H1,H3,H4,rfl,hc,g3.cell.2,g4.uB.2,S.Q2 [.dL (bz.mk (.mk au n aD cells a b aq agg col ao) l r ks).d (.agg (bL au n aD C a b K agg col D [L,R,KS])) H1,.dL (aI.d base) B H3,.dL (.a 2 (aZ.map dg.d)) P H4] (by simp[Chunk.dL]) ?_⟩;intro d hd;simp only[aaz,List.not_mem_nil,or_false]at hd;rcases hd with rfl|rfl|rfl
    ·exact h1
    ·exact g3
    ·exact g4
theorem aj.B5{h:aG}{L:List Chunk}{sz:Nat}{xs:List bg}{v:af}{F:List Nat}(s:aj h (.dL (.a sz xs) v F::L)):(xs=[]/\v= .nil/\aj h L)∨ ∃id vs Fs,v= .own id 0 xs.length/\F=id::Fs/\aj h (.row id (.arr sz vs):: .ed xs vs Fs::L):=by
 have hA:=cq.IV (show cq h (.a sz xs) v F from s.get 0 rfl);have s2:=s.is (c':=.dL (.s sz xs) v F) hA.1 rfl;rcases aj.open s2 with⟨h1,h2,h3⟩|h
 ·rcases hA.2 with rfl|⟨id,rfl⟩
  ·exact .inl ⟨h1,rfl,h3⟩
  ·rcases h2 with h2|h2<;>cases h2
 ·exact .inr h
theorem aj.r0{h:aG}{L:List Chunk}{sz n id:Nat}{xs:List bg}{vs:List af}{Fs:List Nat}(s:aj h (.row id (.arr sz vs):: .ed xs vs Fs::L))(hn:n=xs.length):aj h (.dL (.a sz xs) (.own id 0 n) (id::Fs)::L):=aj.qU (aj.jX s hn)
theorem CU{α:Type}{f:α->bg}{h:aG}{sz:Nat}{xs:List α}{v:af}{F:List Nat}(ho:cq h (.a sz (xs.map f)) v F):(v= .nil/\xs=[])∨ ∃id,v= .own id 0 xs.length:=by
 simp only[cq]at ho;rcases ho with⟨h1,_,rfl⟩|⟨id,_,_,rfl,_⟩
 ·exact .inl ⟨rfl,by simpa using h1⟩
 ·exact .inr ⟨id,by simp⟩
def yt(v:View)(fuel:Int):View:=⟨(j6 v.hU fuel).1,v.bO,v.base,v.aZ⟩
def r5(s:bN)(view fuel:Int):bN×Int:=
 if dz s=false then(U6,6)else if view<0∨(view>=s.aL.length∨fuel<0)then(s,1)else
  (⟨s.bc,s.aH,s.aL.take view.toNat++((s.aL.drop view.toNat).take 1).map (yt · fuel)++s.aL.drop (view.toNat+1),s.now,s.keep⟩,0)
theorem FU(hp:cF pr)(s:bN)(view fuel:Int)(ht:s.d.fA<=1048576)(dN:dz s=true-> ∀v∈s.aL,∃w,mT s.bc 6 v.hU w/\many 6 v.hU.ez<=10):nc pr 84 [s.enc,i64 view,i64 fuel] [(r5 s view fuel).1.da,.i (r5 s view fuel).2]:=by
 have eb:=mQ hp s ht;have Gi:=nr hp s ht;have aQ:r5 s view fuel=r5 s view fuel:=rfl;conv at aQ=>rhs;unfold r5
 generalize r5 s view fuel=res at aQ⊢;have zn: ∀v∈s.aL,v.d.fA<=1048576:=fun v hv=>by have:=eK s;have:=eA (f:=View.d) hv;omega
 obtain⟨bc,aH,aL,now,keep⟩:=s;refine gT hp rfl ?_;have S:=aj.nil [];conv=>whnf
 intro k1 a1 eg er;replace S:=S.alloc eg er;conv=>whnf
 intro k2 a2 jS jb;replace S:=S.alloc jS jb;refine aC (S.row 1 rfl) ?_;conv=>whnf
 refine⟨_,eb _,?_⟩;conv=>whnf
 cases lf:dz ⟨bc,aH,aL,now,keep⟩with
 |false=>
  rw[lf]at aQ;rw[if_pos rfl]at aQ;subst aQ;conv=>whnf
  refine⟨_,rfl,rfl,rfl,.inl ⟨_,S.row 0 rfl,rfl,?_⟩⟩;conv=>whnf
  intro a3 nq;replace S:=S.w0 nq;conv=>whnf
  exact⟨_,aS rfl rfl (S.row 0 rfl) rfl rfl,_,_,_,rfl,iH (xh _) (uq 6),by simp⟩
 |true=>
  rw[lf,if_neg (by simp)]at aQ;dsimp only at aQ;have dN:=dN lf;dsimp only at dN zn;refine aC (S.row 1 rfl) ?_;conv=>whnf
  refine fp S Gi rfl rfl fun v q1 F1 o1 S1=>?_;clear S Gi eb o1;obtain⟨W,T,V,G1,G2,G3,rfl,cW,cT,cV,S⟩:=aj.iZ S1;clear S1;conv=>whnf
  intro k3 a4 mF lI;replace S:=S.alloc mF lI;conv=>whnf
  refine⟨[W,T,V,i64 now,i64 keep],(by kernel_rfl),rfl,(bM cW (bM cT (bM cV rfl))),.inl ⟨_,S.row 0 rfl,rfl,?_⟩⟩;conv=>whnf
  intro b1 fw;replace S:=S.w0 fw;conv=>whnf
  refine ae (fun g1=>?_) (fun g1=>?_)
  ·rw[if_pos (.inl (by simpa using g1))]at aQ;subst aQ;refine aC (S.row 0 rfl) ?_;conv=>whnf
   refine⟨[W,T,V,i64 now,i64 keep],(by kernel_rfl),rfl,(bM cW (bM cT (bM cV rfl))),.inl ⟨_,S.row 4 rfl,rfl,?_⟩⟩;conv=>whnf
   intro b2 ea;replace S:=S.w4 ea;conv=>whnf
   exact⟨_,aS rfl rfl (S.row 4 rfl) rfl rfl,_,_,_,rfl,mA (aj.ik (S.drop 0)) 1⟩
  ·refine aC (S.row 0 rfl) ?_;conv=>whnf
   rcases CU (show cq b1 (.a 25 (aL.map View.da)) V G3 from S.get 3 rfl)with⟨rfl,rfl⟩|⟨id,rfl⟩
   ·conv=>whnf
    refine ae (fun g2=>?_) (fun g2=>?_)
    ·rw[if_pos (.inr (.inl (by simp at g1⊢;omega)))]at aQ;subst aQ;refine aC (S.row 0 rfl) ?_;conv=>whnf
     refine⟨[W,T,.nil,i64 now,i64 keep],(by kernel_rfl),rfl,(bM cW (bM cT (bM cV rfl))),.inl ⟨_,S.row 4 rfl,rfl,?_⟩⟩;conv=>whnf
     intro b2 ea;replace S:=S.w4 ea;conv=>whnf
     exact⟨_,aS rfl rfl (S.row 4 rfl) rfl rfl,_,_,_,rfl,mA (aj.ik (S.drop 0)) 1⟩
    ·exfalso;simp at g1 g2;omega
   ·conv=>whnf
    refine ae (fun g2=>?_) (fun g2=>?_)
    ·rw[if_pos (.inr (.inl (by simpa using g2)))]at aQ;subst aQ;refine aC (S.row 0 rfl) ?_;conv=>whnf
     refine⟨[W,T,.own id 0 aL.length,i64 now,i64 keep],(by kernel_rfl),rfl,(bM cW (bM cT (bM cV rfl))),.inl ⟨_,S.row 4 rfl,rfl,?_⟩⟩;conv=>whnf
     intro b2 ea;replace S:=S.w4 ea;conv=>whnf
     exact⟨_,aS rfl rfl (S.row 4 rfl) rfl rfl,_,_,_,rfl,mA (aj.ik (S.drop 0)) 1⟩
    ·conv=>whnf
     refine ae (fun g3=>?_) (fun g3=>?_)
     ·rw[if_pos (.inr (.inr (by simpa using g3)))]at aQ;subst aQ;refine aC (S.row 0 rfl) ?_;conv=>whnf
      refine⟨[W,T,.own id 0 aL.length,i64 now,i64 keep],(by kernel_rfl),rfl,(bM cW (bM cT (bM cV rfl))),.inl ⟨_,S.row 4 rfl,rfl,?_⟩⟩;conv=>whnf
      intro b2 ea;replace S:=S.w4 ea;conv=>whnf
      exact⟨_,aS rfl rfl (S.row 4 rfl) rfl rfl,_,_,_,rfl,mA (aj.ik (S.drop 0)) 1⟩
     ·rw[if_neg (by intro h;simp at g1 g2 g3;omega)]at aQ;obtain⟨j,rfl⟩: ∃j:Nat,view=(j:Int):=⟨view.toNat,by simp at g1;omega⟩;have bp:j<aL.length:=by simp at g2;omega
      have UL:aL=aL.take j++aL[j]::aL.drop (j+1):=by rw[<-aaf bp,List.take_append_drop]
      have m7:(aL.drop j).take 1=[aL[j]]:=by rw[aaf bp];rfl
      have Zg:(aL.take j).length=j:=by simp;omega
      have hlen:(aL.take j++aL[j]::aL.drop (j+1)).length=aL.length:=by rw[<-UL]
      obtain⟨w,mw,Zh⟩:=dN _ (aac bp);have acg:=zn _ (aac bp);rw[aaa,m7]at aQ;rw[show aL.map View.da=(aL.take j++aL[j]::aL.drop (j+1)).map View.da by rw[<-UL]]at S;generalize aL.take j=VA at aQ S Zg hlen;generalize aL.drop (j+1)=VB at aQ S hlen;generalize aL[j]=vw at aQ S hlen mw Zh acg;clear UL m7 dN zn;obtain⟨⟨⟨au,n,aD,cells,a,b,aq,agg,col,ao⟩,l,r,ks⟩,bO,base,aZ⟩:=vw;rw[aaD,aao]at S;replace S:=S.q3;rcases aj.B5 S with⟨hx,_,_⟩|⟨zS,vs,Fs,dm,rfl,S1⟩
      ·simp at hx
      injection dm with vt _ FJ;subst vt;obtain⟨XA,xv,XB,FA,G,FB,rfl,WT,S2⟩:=aj.D6 S1.swap;clear S S1;obtain⟨C,K,D,L,R,KS,B,P,H1,H2,H3,rfl,sL,cB,cP,S⟩:=aj.M3 S2;clear S2;have xj:XA.length=j:=by rw[WT,aat,Zg]
      have sf:(XA++af.agg (bL au n aD C a b K agg col D [L,R,KS,i64 bO,B,P])::XB)[0+((j:Nat):Int).toNat]?=some (af.agg (bL au n aD C a b K agg col D [L,R,KS,i64 bO,B,P])):=by
       rw[aaK,aaa,<-xj];simp
      dsimp only[bz.ez]at mw Zh;refine aC (S.row 6 rfl) ?_;conv=>whnf
      refine⟨_,S.row 5 rfl,⟨by omega,by omega⟩,?_⟩;conv=>whnf
      refine .inr ⟨_,_,_,S.row 5 rfl,sf,?_⟩;conv=>whnf
      obtain⟨v2,d2,G4,Dc,hc,mU,S3⟩:=OX hp 6 (by omega) au n aD cells a b aq agg col ao l r ks w mw fuel _ _ _ _ _ (w9 _) S;refine⟨_,hc,?_⟩;clear hc S;have S:=S3;clear S3;have fP:=B2 6 _ w fuel mw;have RZ:=Lw 6 _ _ fP;have zq:=tw 6 _ _ fP;rw[qg]at RZ;simp only[aao,abA,yt,abr,List.singleton_append]at aQ;generalize hmf:j6 (.mk (.mk au n aD cells a b aq agg col ao) l r ks) fuel=mf at aQ mU fP RZ zq⊢;have vD:mf.1.ez= .mk au n aD cells a b aq agg col ao:=by rw[<-hmf];exact qg _ _
      obtain⟨⟨p2,l2,r2,ks2⟩,Xz⟩:=mf;dsimp only[bz.ez]at aQ mU fP RZ zq vD⊢;subst vD;have Zi:=IT hp _ (show(bz.mk (.mk au n aD cells a b aq agg col ao) l2 r2 ks2).d.fA<=1048576 by omega);obtain⟨C2,K2,D2,L2,R2,so,Ze,X1,X2,X3,RW,rfl,BX,y1,y2,y3,Sx⟩:=aj.uC mU S;have dR:(bL au n aD C2 a b K2 agg col D2 [L2,R2,so]).all af.bQ=true:=pP y1 y2 y3 (bM (show XR _ l2 L2 X1 from Sx.get 1 rfl).cell.2 (bM (show XR _ r2 R2 X2 from Sx.get 2 rfl).cell.2 (bM (show cq _ (.s 22 RW) so X3 from Sx.get 3 rfl).cell.2 rfl)));clear Sx y1 y2 y3 BX;conv=>whnf
      intro k5 a5 CS qJ;replace S:=S.alloc CS qJ;conv=>whnf
      refine⟨(bL au n aD C2 a b K2 agg col D2 [L2,R2,so]),(by kernel_rfl),rfl,dR,.inl ⟨_,S.row 0 rfl,rfl,?_⟩⟩;conv=>whnf
      intro b5 jF;replace S:=S.w0 jF;conv=>whnf
      have Zj:Am.snap b5 (.agg (bL au n aD C2 a b K2 agg col D2 [L2,R2,so]))=some (bz.mk (.mk au n aD cells a b aq agg col ao) l2 r2 ks2).enc:=by
       have hd:=tp _ _ mU;rw[<-ym _ _ mU];exact cq.snap (show cq b5 d2 _ G4 from S.get 1 rfl) (by omega)
      refine aC (S.row 7 rfl) ?_;refine aC (S.row 0 rfl) ?_;conv=>whnf
      refine fp S Zi rfl (bu Zj (dM _)) fun v9 q9 F9 o9 S9=>?_;clear S Zj Zi;have S:=S9;clear S9;obtain⟨C3,K3,D3,L3,R3,KS3,rfl,I8⟩:=pz o9;clear o9;conv=>whnf
      refine⟨_,S.row 7 rfl,⟨by omega,by omega⟩,?_⟩;conv=>whnf
      refine⟨bL au n aD C3 a b K3 agg col D3 [L3,R3,KS3],(by kernel_rfl),rfl,I8,.inr ⟨_,_,_,S.row 7 rfl,sf,?_⟩⟩;conv=>whnf
      intro b6 tq;replace S:=S.w7 tq;conv=>whnf
      rw[aaK,aaa,mu xj]at S;subst aQ;refine aC (S.row 8 rfl) ?_;conv=>whnf
      refine⟨[W,T,.own id 0 aL.length,i64 now,i64 keep],(by kernel_rfl),rfl,(bM cW (bM cT (bM rfl rfl))),.inl ⟨_,S.row 11 rfl,rfl,?_⟩⟩;conv=>whnf
      intro b7 I9;replace S:=S.w11 I9;conv=>whnf
      replace S:=(S.drop 1).drop 1;dsimp only[List.eraseIdx]at S;replace S:=aj.CT (uc (bO:=bO) S);rw[<-aao,<-aaD]at S;replace S:=aj.r0 (n:=aL.length) S.swap (by rw[<-hlen];simp);replace S:=S.q3;replace S:=S.q3;exact⟨_,aS rfl rfl (S.row 4 rfl) rfl rfl,_,_,_,rfl,mA (aj.ik S) 0⟩
end Go.Proofs.YtfepbikckfehlaaGreat

/- From a row's reading of its arguments to Am's values; from Am's 'true' to the row's conclusion. -/
import Derived.Test.YtfepbikckfehlaaGreatGSBmP
import Derived.WideKeyArgs
import Derived.ChangeSame
import Derived.RowKit3
set_option linter.unusedVariables false
set_option linter.unusedSimpArgs false
set_option maxHeartbeats 4000000
namespace Go.Am
open Go
section
variable{cf:eP}{C:q0}{ops:Array Oper}{E:Env}{w:World}{N:Nat}
theorem Ka{cM:Array Bool}(SW: ∀j o,ops[j]?=some o-> ∀e∈o.after,Region.binds .any e=true->e.on<j)(hs:cM.size=ops.size)(hr:Region.ready .any ops cM=[]): ∀i,i<ops.size->rB cM i:=by
 intro i
 induction i using Nat.strongRecOn with
 |_ i ih=>
  intro hi
  cases hl:cM.getD i false with
  |true=>exact hl
  |false=>
   exfalso
   have:i∈Region.ready .any ops cM:=by
    rw[mem_ready];refine⟨by simp[hs,hi]at hl⊢;exact hl,ops[i],abb hi,fun e he hb=>?_⟩;have:=SW i _ (abb hi) e he hb;exact ih e.on this (by omega)
   rw[hr]at this;cases this
theorem P8{tr:Nat->St}{E0:Env}{h0:aG}{w0:World}(hS:Sound cf C)(hC:jl cf C)(eb:xG cf.P cf.M ops=true)(hd: ∀o∈ops.toList,∀d,o.dst=some d->d<N)(ht: ∀i o,ops[i]?=some o->gb cf C ops (tr i) o (tr (i+1)))
  (Dp: ∀j o,ops[j]?=some o->xw cf.M o.op=true->(tr (j+1)).hp=(tr j).hp∨nH cf (tr (j+1)) (((m6 ops.toList [])[j]?).getD 0) (ops.toList.take j) 0)
  {Q:Exit->Act->World->Prop} (hQ: ∀(E:Env)(cM:Array Bool)(a:Act)(w:World),P4 cf ops tr E0 h0 w0 N E ops.size cM a w->(∀i,i<ops.size->rB cM i)->Q .normal a w):
  ∀(fuel:Nat)(E:Env)(q:Nat)(cM:Array Bool)(a:Act)(w:World),P4 cf ops tr E0 h0 w0 N E q cM a w->cM.toList.count false=fuel->wpAny cf.P .any ops Q fuel cM a w:=by
   obtain⟨SW,sP⟩:=yO eb
   have fin: ∀(E:Env)(q:Nat)(cM:Array Bool)(a:Act)(w:World),P4 cf ops tr E0 h0 w0 N E q cM a w->(∀i,i<ops.size->rB cM i)->Q .normal a w:=by
    intro E q cM a w inv aF
    have hq:q=ops.size:=by
     rcases Nat.lt_or_ge q ops.size with h|h
     ·exact absurd (aF q h) (inv.wq h).2
     ·have:=inv.Yd;omega
    subst hq;exact hQ E cM a w inv aF
   intro fuel
   induction fuel with
   |zero=>
    intro E q cM a w inv hc
    have aF: ∀i,i<ops.size->rB cM i:=by
     intro i hi;have nK:i<cM.size:=by rw[inv.size];exact hi
     have PT:=List.count_eq_zero.1 hc
     cases hb:cM[i]with
     |true=>simp[rB,nK,hb]
     |false=>exact absurd (by rw[<-hb];simp) PT
    refine⟨?_,fin E q cM a w inv aF⟩;refine List.eq_nil_iff_forall_not_mem.2 fun i hi=>?_;obtain⟨SX,o,ho,_⟩:=mem_ready.1 hi;have Xn:i<ops.size:=(aaR.1 ho).1;have:=aF i Xn;unfold rB at this;have nK:i<cM.size:=by rw[inv.size];exact Xn
    simp[nK]at this SX;rw[this]at SX
    cases SX
   |succ fuel ih=>
    intro E q cM a w inv hc;refine⟨fun hr=>fin E q cM a w inv (Ka SW inv.size hr),fun i hi=>?_⟩;refine NB hS hC eb hd ht Dp inv hi fun E' q' a' w' aaG=>ih E' q' _ a' w' aaG ?_;obtain⟨SX,o,ho,_⟩:=mem_ready.1 hi
    have nK:i<cM.toList.length:=by
     have:=(aaR.1 ho).1;simp[inv.size];exact this
    have aaH:i<cM.size:=by simpa using nK
    have ZM:cM.toList[i]=false:=by simp[aaH]at SX;simpa using SX
    rw[Array.toList_setIfInBounds,List.count_set nK,hc,ZM];simp
theorem xH(hS:Sound cf C)(hC:jl cf C)(eb:xG cf.P cf.M ops=true)(hd: ∀o∈ops.toList,∀d,o.dst=some d->d<N){st Pe:St}{a:Act}
  (hr:kB cf C true ops ops.toList st=some (.norm Pe)) (rel:mE cf E w st a) (hN:a.tmps.size=N):wpAny cf.P .any ops (AJ cf E st.hp w N (.norm Pe)) ops.size (Array.replicate ops.size false) a {w with drawn:=w.drawn+1}:=by
   obtain⟨tr,t0,tn,ts⟩:=PZ _ _ _ hr;have ht: ∀i o,ops[i]?=some o->gb cf C ops (tr i) o (tr (i+1)):=fun i o ho=>(ts i o (by simpa using ho)).1
   have Dp: ∀j o,ops[j]?=some o->xw cf.M o.op=true->(tr (j+1)).hp=(tr j).hp∨nH cf (tr (j+1)) (((m6 ops.toList [])[j]?).getD 0) (ops.toList.take j) 0:=by
    intro j o ho hf;have hj:j<ops.size:=(aaR.1 ho).1;rcases(ts j o (by simpa using ho)).2 hf with h|h
    ·exact .inl h.2
    ·right
     rw[show ops.size-(ops.toList.length-j)=j by simp;omega]at h;exact h
   have Yo:tr ops.size=Pe:=by rw[<-tn];simp
   obtain⟨q,AO,qD,Cp,Xq⟩:=P5 cf.M ops ops.size 0 (by omega)
   have qB: ∀i,i<=q->(tr 0).hp <+:(tr i).hp:=fun i hi=>by
    have:=tM ht i 0 (by omega) fun k o h1 h2 ho=>Cp k o h1 (by omega) ho;simpa using this
   have Mj: ∀k,¬rB (Array.replicate ops.size false) k:=fun k h=>by
    unfold rB at h;simp at h
    cases hx:(Array.replicate ops.size false)[k]? with
    |none=>simp[hx]at h
    |some b=>
     rw[Array.getElem?_replicate]at hx;split at hx
     ·cases hx;simp_all
     ·cases hx
   have aaI:eG E (tr 0).hp w:=by rw[t0];exact rel.qj
   have P9:Full E (tr 0).hp:=by rw[t0];exact rel.full
   have aaJ:eG E (tr q).hp {w with drawn:=w.drawn+1}:=(aaI.more (qB q (aah _)) P9).of_heap rfl
   have Uz: ∀m,m<q->(tr m).hp.length<=(tr (m+1)).hp.length:=fun m hm=>by
    have Xp:m<ops.size:=by omega
    exact((ht m ops[m] (abb Xp)).Dm (Cp m ops[m] (Nat.zero_le _) hm (abb Xp))).length_le
   refine P8 (E0:=E) (h0:=st.hp) (w0:=w) hS hC eb hd ht Dp ?_ ops.size E q _ a _ ⟨by simp,fun j o _ h=>absurd h (Mj j),qD,fun i o hi ho hx=>?_,fun hq=>⟨Xq hq,Mj q⟩,aaJ,fun k hk=>P9 k (aa3 (qB q (aah _)).length_le hk),fun i hi _ k h1 _=>P9 k (aa3 (qB i (by omega)).length_le h1),fun j t hj h1 h2=>?_,rel.g.mono (fun _ h=>h) (fun _ _=>rfl),rel.df,hN,
    ⟨⟨fun _ h=>h,fun _ h=>.inl h,fun _ _ _=>rfl,fun _ _ h=>.inl h,fun _ h=>.inl h,by rw[<-t0];exact(qB q (aah _)).length_le,aah _,rfl,rfl,rfl⟩,fun _ _ h=>h⟩,Uz,by rw[t0];exact aah _⟩ ?_
   ·intro E' cM a' w' inv aF;refine⟨Pe,E',rfl,⟨?_,?_,inv.g,fun t=>?_,inv.df⟩,?_,inv.sz⟩
    ·rw[<-Yo];exact inv.qj
    ·rw[<-Yo];exact inv.full
    ·rw[<-Yo]
     exact inv.tm ops.size t (aah _) (fun i o hi _ _=>aF i hi) fun i o hi ho _=>by
      have:=(aaR.1 ho).1;omega
    ·rw[<-Yo];exact inv.ext
   ·exact absurd (Cp i o (Nat.zero_le _) hi ho) (by rw[hx];simp)
   ·have:=mK ht (t:=t) j 0 (by omega) fun k o _ hk ho nD=>Mj k (h1 k o (by omega) ho nD);rw[aaK]at this;rw[this,t0];exact de.of_heap (w:=w) (w':={w with drawn:=w.drawn+1}) rfl (rel.tm t)
   ·simp
end
def Kb(p:List Nat)(n:Nat):Bool:=p.length==n&&p.all (fun i=>decide (i<n))&&decide p.Nodup&&(List.range n).all fun i=>p.contains i
structure Perm(p:List Nat)(n:Nat):Prop where
 len:p.length=n
 lt: ∀i∈p,i<n
 nd:p.Nodup
 all: ∀i,i<n->i∈p
theorem He{p:List Nat}{n:Nat}(h:Kb p n=true):Perm p n:=by
 simp only[Kb,xz,beq_iff_eq,aaj,decide_eq_true_eq]at h;obtain⟨⟨⟨h1,h2⟩,h3⟩,h4⟩:=h;exact⟨h1,h2,h3,fun i hi=>by have:=h4 i (List.mem_range.2 hi);simpa using this⟩
theorem AP(p:List Nat)(ops:Array Oper): ∀(l:List Nat),(∀i∈l,i<ops.size)-> ∀k:Nat,(lM p ops l)[k]?=(l[k]?).bind fun i=>(ops[i]?).map (mG p)
 | [],_,k=>by simp[lM]
 |i::is,h,k=>by
  have hi:i<ops.size:=h i (by simp);have ho:ops[i]?=some ops[i]:=abb hi;simp only[lM,ho]
  cases k with
  |zero=>simp[ho]
  |succ k=>simpa using AP p ops is (fun j hj=>h j (by simp[hj])) k
theorem AQ(p:List Nat)(ops:Array Oper): ∀(l:List Nat),(∀i∈l,i<ops.size)->(lM p ops l).length=l.length
 | [],_=>rfl
 |i::is,h=>by
  have hi:i<ops.size:=h i (by simp);have ho:ops[i]?=some ops[i]:=abb hi;simp only[lM,ho,aak,AQ p ops is fun j hj=>h j (by simp[hj])]
section
variable{P:Program}{ops:Array Oper}{p:List Nat}{Q:Exit->Act->World->Prop}
theorem Perm.Qa(hp:Perm p ops.size){i:Nat}(hi:i<ops.size):p.idxOf i<ops.size:=by rw[<-hp.len];exact List.idxOf_lt_length_iff.2 (hp.all i hi)
theorem Perm.Ey(hp:Perm p ops.size){i:Nat}(hi:i<ops.size):p[p.idxOf i]?=some i:=by
 have hl:=List.idxOf_lt_length_iff.2 (hp.all i hi);rw[aab hl,List.getElem_idxOf hl]
theorem Perm.Tf(hp:Perm p ops.size){k i:Nat}(hk:p[k]?=some i):p.idxOf i=k:=by
 obtain⟨hl,he⟩:=aag.1 hk;subst he;exact hp.nd.idxOf_getElem k hl
theorem Perm.Qb(hp:Perm p ops.size){i:Nat}(hi:ops.size<=i):p.idxOf i=ops.size:=by
 rw[<-hp.len];exact List.idxOf_eq_length fun hm=>by have:=hp.lt i hm;omega
theorem Kc(hp:Perm p ops.size):(pT p ops).size=ops.size:=by simp[pT,AQ p ops p hp.lt,hp.len]
theorem Dr(hp:Perm p ops.size)(k:Nat):(pT p ops)[k]?=(p[k]?).bind fun i=>(ops[i]?).map (mG p):=by
 rw[<-AP p ops p hp.lt k];simp[pT]
theorem xI(hp:Perm p ops.size)(i:Nat):(pT p ops)[p.idxOf i]?=(ops[i]?).map (mG p):=by
 rw[Dr hp];rcases Nat.lt_or_ge i ops.size with h|h
 ·rw[hp.Ey h];rfl
 ·rw[hp.Qb h,List.getElem?_eq_none (by rw[hp.len];exact aah _),Array.getElem?_eq_none h];rfl
theorem CA(hp:Perm p ops.size)(tmps:Array Value)(j:Nat):yielded (pT p ops) tmps (p.idxOf j)=yielded ops tmps j:=by
 unfold yielded;rw[xI hp];cases ops[j]?<;>rfl
theorem Ez(hp:Perm p ops.size)(tmps:Array Value)(o:Oper):Region.wanted (mG p o) (yielded (pT p ops) tmps)=Region.wanted o (yielded ops tmps):=by
 unfold Region.wanted mG
 cases o.guard with
 |none=>rfl
 |some g=>simp only[aaL,CA hp]
theorem Qc(o:Oper)(a:Act)(w:World)(K:Act->World->Prop):(mG p o).wp P a w K Q↔o.wp P a w K Q:=by
 cases o
 exact Iff.rfl
theorem Kd(o:Oper)(a:Act)(w:World):(mG p o).asks P a w↔o.asks P a w:=by
 cases o
 exact Iff.rfl
theorem Ke(hp:Perm p ops.size)(i:Nat)(K:Act->World->Prop)(a:Act)(w:World)(h:wpOp P (pT p ops) Q (p.idxOf i) K a w):wpOp P ops Q i K a w:=by
 unfold wpOp at h⊢;rw[xI hp]at h
 cases ho:ops[i]? with
 |none=>rw[ho]at h;exact h
 |some o=>
  rw[ho]at h;simp only[aaL,Ez hp]at h⊢;split
  ·rename_i hw;rw[if_pos hw]at h;exact h.imp (Qc o a w K).1 fun h=>⟨(Kd o a w).1 h.1,h.2⟩
  ·rename_i hw;rw[if_neg hw]at h;exact h
def RL(p:List Nat)(n:Nat)(l l':Array Bool):Prop:=l.size=n/\l'.size=n/\ ∀i,i<n->l'[p.idxOf i]?=l[i]?
theorem RL.get(hp:Perm p ops.size){l l':Array Bool}(h:RL p ops.size l l')(i:Nat)(b:Bool):l'.getD (p.idxOf i) b=l.getD i b:=by
 rcases Nat.lt_or_ge i ops.size with hi|hi
 ·have:=h.2.2 i hi;simp[Array.getD_eq_getD_getElem?,this]
 ·rw[hp.Qb hi,Array.getD_eq_getD_getElem?,Array.getD_eq_getD_getElem?,Array.getElem?_eq_none (by rw[h.2.1];exact aah _),Array.getElem?_eq_none (by rw[h.1];exact hi)]
theorem AR{p:List Nat}{o:Oper}{e:Edge}:e∈(mG p o).after↔ ∃e',e'∈o.after/\{e' with on:=p.idxOf e'.on}=e:=by simp[mG]
theorem RL.ready(hp:Perm p ops.size){l l':Array Bool}(h:RL p ops.size l l')(i:Nat):i∈Region.ready .any ops l->p.idxOf i∈Region.ready .any (pT p ops) l':=by
 intro hi;rw[mem_ready]at hi⊢;obtain⟨h1,o,ho,h2⟩:=hi;refine⟨by rw[h.get hp];exact h1,mG p o,by rw[xI hp,ho];rfl,fun e he hb=>?_⟩;obtain⟨e',AD,rfl⟩:=AR.1 he;rw[h.get hp];exact h2 e' AD hb
theorem RL.VT(hp:Perm p ops.size){l l':Array Bool}(h:RL p ops.size l l')(k:Nat):k∈Region.ready .any (pT p ops) l'-> ∃i∈Region.ready .any ops l,p.idxOf i=k:=by
 intro hk;rw[mem_ready]at hk;obtain⟨h1,o',iP,h2⟩:=hk;rw[Dr hp]at iP
 cases hpk:p[k]? with
 |none=>rw[hpk]at iP;cases iP
 |some i=>
  rw[hpk]at iP;simp only[Option.bind_some,nM]at iP;obtain⟨o,ho,rfl⟩:=iP;have Nn:=hp.Tf hpk;refine⟨i,?_,Nn⟩;rw[mem_ready];subst Nn;refine⟨by rw[<-h.get hp];exact h1,o,ho,fun e he hb=>?_⟩;have:=h2 {e with on:=p.idxOf e.on} (AR.2 ⟨e,he,rfl⟩) hb;rw[<-h.get hp];exact this
theorem RL.set(hp:Perm p ops.size){l l':Array Bool}(h:RL p ops.size l l'){i:Nat}(hi:i<ops.size):RL p ops.size (l.setIfInBounds i true) (l'.setIfInBounds (p.idxOf i) true):=by
 refine⟨by simpa using h.1,by simpa using h.2.1,fun j hj=>?_⟩;rw[Array.getElem?_setIfInBounds,Array.getElem?_setIfInBounds]
 by_cases e:i=j
 ·subst e;rw[if_pos rfl,if_pos rfl,if_pos (by rw[h.2.1];exact hp.Qa hi),if_pos (by rw[h.1];exact hi)]
 ·rw[if_neg e,if_neg (fun e'=>e ?_)]
  ·exact h.2.2 j hj
  ·have h1:=hp.Ey hi;rw[e',hp.Ey hj]at h1;cases h1
   rfl
theorem ND(hp:Perm p ops.size): ∀(fuel:Nat)(l l':Array Bool)(a:Act)(w:World),RL p ops.size l l'->wpAny P .any (pT p ops) Q fuel l' a w->wpAny P .any ops Q fuel l a w:=by
 intro fuel
 induction fuel with
 |zero=>
  intro l l' a w h hw;refine⟨List.eq_nil_iff_forall_not_mem.2 fun i hi=>?_,hw.2⟩;have:=h.ready hp i hi;rw[hw.1]at this
  cases this
 |succ fuel ih=>
  intro l l' a w h hw;refine⟨fun hr=>hw.1 (List.eq_nil_iff_forall_not_mem.2 fun k hk=>?_),fun i hi=>?_⟩
  ·obtain⟨i,hi,_⟩:=h.VT hp k hk;rw[hr]at hi;cases hi
  ·have Xn:i<ops.size:=by
    obtain⟨_,o,ho,_⟩:=mem_ready.1 hi;exact(aaR.1 ho).1
   refine Ke hp i _ a w (wpOp_mono (fun a w hk=>?_) (hw.2 _ (h.ready hp i hi)));exact ih _ _ a w (h.set hp Xn) hk
end
def Mp(pm:Nat->Nat->Nat->Option (List Nat))(id:Nat)(ops:Array Oper):Bool:=match pm id ops.size (((ops[0]?).bind (·.dst)).getD 0)with
 |some p=>Kb p ops.size
 |none=>true
theorem Tg{P:Program}{Q:Exit->Act->World->Prop}{pm:Nat->Nat->Nat->Option (List Nat)}{id:Nat}{ops:Array Oper}(h:Mp pm id ops=true){a:Act}{w:World}
  (hw:wpAny P .any (LU pm id ops true) Q (LU pm id ops true).size (Array.replicate (LU pm id ops true).size false) a w):wpAny P .any ops Q ops.size (Array.replicate ops.size false) a w:=by
   unfold Mp at h;unfold LU at hw;simp only at hw;split at h
   ·rename_i p hp;simp only[hp]at hw;have hq:=He h;rw[Kc hq]at hw;exact ND hq _ _ _ a w ⟨by simp,by simp,fun i hi=>by rw[Array.getElem?_replicate,Array.getElem?_replicate,if_pos hi,if_pos (hq.Qa hi)]⟩ hw
   ·rename_i hp;simp only[hp]at hw;exact hw
theorem Th{pm:Nat->Nat->Nat->Option (List Nat)}{id:Nat}{ops:Array Oper}{d:Bool}{o:Oper}(h:o∈(LU pm id ops d).toList): ∃o'∈ops.toList,o.dst=o'.dst:=by
 have key: ∀(p l:List Nat),o∈lM p ops l-> ∃o'∈ops.toList,o.dst=o'.dst:=by
  intro p l
  induction l with
  |nil=>intro h;simp[lM]at h
  |cons i is ih=>
   intro h;simp only[lM]at h;split at h
   ·rename_i x hx;rcases aaz.1 h with rfl|h
    ·obtain⟨hl,rfl⟩:=aaR.1 hx;exact⟨ops[i],by simp,rfl⟩
    ·exact ih h
   ·exact ih h
 unfold LU at h;split at h
 ·exact⟨o,h,rfl⟩
 ·split at h
  ·exact key _ _ (by simpa[pT]using h)
  ·exact⟨o,h,rfl⟩
def codeOk(P:Program)(M:FuncId->Mode)(pm:Nat->Nat->Nat->Option (List Nat))(N:Nat):Code->Bool
 | .region id ops d=>(ops.toList.all fun o=>match o.dst with|some d=>decide (d<N)|none=>true)&&(!d||(Mp pm id ops&&xG P M (LU pm id ops true)))
 | .seq a b=>codeOk P M pm N a&&codeOk P M pm N b
 | .cond _ a b=>codeOk P M pm N a&&codeOk P M pm N b
 | .block _ c=>codeOk P M pm N c
 | .loop c=>codeOk P M pm N c
 | .scope c=>codeOk P M pm N c
 |_=>true
theorem Hf{P:Program}{M:FuncId->Mode}{pm:Nat->Nat->Nat->Option (List Nat)}{N N':Nat}(hN:N<=N'): ∀c:Code,codeOk P M pm N c=true->codeOk P M pm N' c=true:=by
 intro c
 induction c with
 |region id ops d=>
  intro h;simp only[codeOk,xz]at h⊢;refine⟨aaj.2 fun o ho=>?_,h.2⟩;have:=aaj.1 h.1 o ho
  cases hd:o.dst with
  |none=>rfl
  |some d=>simp only[hd,decide_eq_true_eq]at this⊢;exact abc this hN
 |seq a b sC sD=>intro h;simp only[codeOk,xz]at h⊢;exact⟨sC h.1,sD h.2⟩
 |cond c a b sC sD=>intro h;simp only[codeOk,xz]at h⊢;exact⟨sC h.1,sD h.2⟩
 |block id c ih=>intro h;simp only[codeOk]at h⊢;exact ih h
 |loop c ih=>intro h;simp only[codeOk]at h⊢;exact ih h
 |scope c ih=>intro h;simp only[codeOk]at h⊢;exact ih h
 |_=>intro _;rfl
def EA(cf:eP)(L:O6):Prop:=∀(N:Nat)(c:Code)(st:St)(r:Out),L c st=some r->codeOk cf.P cf.M cf.pm N c=true-> ∀(E:Env)(w:World)(a:Act),mE cf E w st a->a.tmps.size=N->(Code.loop c).wp cf.P (AJ cf E st.hp w N r) a w
theorem Hg{P:Program}{Q:Exit->Act->World->Prop}{c:Code}(J:Nat->Act->World->Prop)(round: ∀n a w,J n a w->c.wp P (Exit.then (fun a' w'=>∃m,m<n/\J m a' w') Q) a w): ∀n a w,J n a w->(Code.loop c).wp P Q a w:=by
 intro n a w h0 b k cs
 have key: ∀n a w,J n a w-> ∃e a' w',Q e a' w'/\Arrives P (lone (b.at a (.code c:: .inLoop c::k)) cs w) b k cs e a' w':=by
  intro n
  induction n using Nat.strongRecOn with
  |_ n ih=>
   intro a w hJ;obtain⟨e,a₁,w₁,hq,ox⟩:=round n a w hJ b (.inLoop c::k) cs
   cases e with
   |normal=>
    obtain⟨m,hm,hJ₁⟩:=hq;obtain⟨e₂,a₂,w₂,hq₂,Qd⟩:=ih m hm a₁ w₁ hJ₁
    exact⟨e₂,a₂,w₂,hq₂,.of_steps (Steps.trans ox (.one step_inLoop)) Qd⟩
   |exit id=>exact⟨_,a₁,w₁,hq,.pass (x:=.inLoop c) rfl (fun _ _=>.inl (by simp)) ox⟩
   |goto l=>exact⟨_,a₁,w₁,hq,.pass (x:=.inLoop c) rfl (fun _ _=>.inl (by simp)) ox⟩
   |ret=>exact⟨_,a₁,w₁,hq,.pass (x:=.inLoop c) rfl (fun _ _=>.inl (by simp)) ox⟩
   |panic ch=>exact⟨_,a₁,w₁,hq,.pass (x:=.inLoop c) rfl (fun _ _=>.inl (by simp)) ox⟩
   |outgrown=>exact⟨_,a₁,w₁,hq,.pass (x:=.inLoop c) rfl (fun _ _=>.inl (by simp)) ox⟩
 obtain⟨e,a',w',hq,ox⟩:=key n a w h0;exact⟨e,a',w',hq,.of_steps (.one step_loop) ox⟩
section
variable{cf:eP}{C:q0}{L:O6}
theorem yR(hm:cf.P.follows .mixedOrders=true)(hS:Sound cf C)(hC:jl cf C)(hL:EA cf L){N:Nat}: ∀(c:Code)(st:St)(r:Out),cQ cf C L c st=some r->codeOk cf.P cf.M cf.pm N c=true-> ∀(E:Env)(w:World)(a:Act),mE cf E w st a->a.tmps.size=N->
  c.wp cf.P (AJ cf E st.hp w N r) a w:=by
   intro c
   induction c with
   |skip=>intro st r h eb E w a rel hN;simp only[cQ]at h;cases h;exact wp_skip ⟨st,E,rfl,rel,Ext.refl _ _ _,hN⟩
   |label l=>intro st r h eb E w a rel hN;simp only[cQ]at h;cases h;exact wp_label ⟨st,E,rfl,rel,Ext.refl _ _ _,hN⟩
   |exit id=>intro st r h eb E w a rel hN;simp only[cQ]at h;cases h;exact wp_exit ⟨st,E,rfl,rel,Ext.refl _ _ _,hN⟩
   |ret=>intro st r h eb E w a rel hN;simp only[cQ]at h;cases h;exact wp_ret ⟨st,E,rfl,rel,Ext.refl _ _ _,hN⟩
   |region id ops d=>
    intro st r h eb E w a rel hN;simp only[cQ]at h;simp only[codeOk,xz]at eb
    have hd: ∀o∈ops.toList,∀d,o.dst=some d->d<N:=fun o ho d hd=>by
     have:=aaj.1 eb.1 o ho;simpa[hd]using this
    obtain⟨h1,h2⟩:=rh h
    cases d with
    |false=>exact wp_region_list (J2 hC _ E w st a r hd h1 rel hN)
    |true=>
     obtain⟨Pe,rfl⟩:=h2 rfl;have Qe:Mp cf.pm id ops=true/\xG cf.P cf.M (LU cf.pm id ops true)=true:=by simpa using eb.2
     refine wp_region_any hm (Tg Qe.1 (xH hS hC Qe.2 (fun o ho d JA=>?_) h1 rel hN));obtain⟨o',iP,he⟩:=Th ho
     exact hd o' iP d (by rw[<-he];exact JA)
   |seq x y VU ihy=>
    intro st r h eb E w a rel hN;simp only[cQ]at h;simp only[codeOk,xz]at eb
    cases hx:cQ cf C L x st with
    |none=>simp[hx]at h
    |some q=>
     simp only[hx]at h;refine wp_seq (wp_mono (VU st q hx eb.1 E w a rel hN) fun e a' w' he=>?_)
     cases e with
     |normal=>
      obtain⟨fb,E',rfl,jT,x',zH⟩:=he
      exact wp_mono (ihy fb r h eb.2 E' w' a' jT zH) (AJ.from x')
     |exit id=>obtain⟨fb,E',rfl,jT,x',zH⟩:=he;cases h;exact⟨fb,E',rfl,jT,x',zH⟩
     |ret=>obtain⟨fb,E',rfl,jT,x',zH⟩:=he;cases h;exact⟨fb,E',rfl,jT,x',zH⟩
     |panic ch=>obtain⟨v,h',E',u,rfl,rest⟩:=he;cases h;exact⟨v,h',E',u,rfl,rest⟩
     |goto l=>exact he
     |outgrown=>exact he
   |cond c x y VU ihy=>
    intro st r h eb E w a rel hN;simp only[cQ]at h;simp only[codeOk,xz]at eb;split at h
    ·rename_i t ht;have hc:a.eval c= .bool t:=(Aq rel.g rel.tm ht).bool;refine wp_cond hc ?_
     cases t with
     |true=>exact VU st r h eb.1 E w a rel hN
     |false=>exact ihy st r h eb.2 E w a rel hN
    ·cases h
   |block id x ih=>
    intro st r h eb E w a rel hN;simp only[cQ]at h;simp only[codeOk]at eb
    cases hx:cQ cf C L x st with
    |none=>simp[hx]at h
    |some q=>
     simp only[hx]at h;refine wp_block (wp_mono (ih st q hx eb E w a rel hN) fun e a' w' he=>?_)
     cases e with
     |normal=>obtain⟨fb,E',rfl,jT,x',zH⟩:=he;cases h;exact⟨fb,E',rfl,jT,x',zH⟩
     |exit j=>
      obtain⟨fb,E',rfl,jT,x',zH⟩:=he;simp only at h;simp only[Exit.inBlock];split at h
      ·rename_i hj;cases h;rw[if_pos hj];exact⟨fb,E',rfl,jT,x',zH⟩
      ·rename_i hj;cases h;rw[if_neg hj];exact⟨fb,E',rfl,jT,x',zH⟩
     |ret=>obtain⟨fb,E',rfl,jT,x',zH⟩:=he;cases h;exact⟨fb,E',rfl,jT,x',zH⟩
     |panic ch=>obtain⟨v,h',E',u,rfl,rest⟩:=he;cases h;exact⟨v,h',E',u,rfl,rest⟩
     |goto l=>exact he
     |outgrown=>exact he
   |loop x ih=>
    intro st r h eb E w a rel hN;simp only[cQ]at h;simp only[codeOk]at eb
    exact hL N x st r h eb E w a rel hN
   |scope x ih=>
    intro st r h eb E w a rel hN;simp only[cQ]at h;simp only[codeOk]at eb;refine wp_scope_straight (wp_mono (ih st r h eb E w a rel hN) fun e a' w' he=>?_)
    cases e<;>exact he
   |rangeFunc f p x y _ _=>intro st r h;simp[cQ]at h
   |goto l=>intro st r h;simp[cQ]at h
   |refuse wy=>intro st r h;simp[cQ]at h
def Ti(tmps:Array Value):ResultVar->Sem Value
 | .tmp t=>pure (tmps.getD t undef)
 | .cell ad t=>do loadVar t (<-asAddr (tmps.getD ad undef))
theorem Kf(fn:Func)(tmps:Array Value):results fn tmps=(do let vs<-fn.results.mapM (Ti tmps);pure (if h:vs.size=1 then vs[0]else .tuple vs)):=rfl
theorem qm{E:Env}{w:World}{st:St}{a:Act}(rel:mE cf E w st a){fn:Func}{vs:List af}(h:di (kM cf.P st) fn.results.toList=some vs):
  ∃u,(results fn a.tmps).run cf.P w= .ok u w/\de E w (Ek vs) u:=by
   have one: ∀(rv:ResultVar)(v:af),kM cf.P st rv=some v-> ∃u,(Ti a.tmps rv).run cf.P w= .ok u w/\de E w v u:=by
    intro rv v hv
    cases rv with
    |tmp t=>simp only[kM]at hv;cases hv;exact⟨_,rfl,rel.tm t⟩
    |cell ad t=>
     simp only[kM]at hv;obtain⟨u,hu,hr⟩:=Ar rel.qj (rel.tm ad) hv;refine⟨u,?_,hr⟩;simp only[Ti];generalize a.tmps.getD ad undef=va at hu⊢;unfold Instr.loadAt Instr.sureAddr at hu;split at hu
     ·simpa[asAddr]using hu
     ·simp[stuck,Sem.run]at hu
   have all: ∀(l:List ResultVar)(vs:List af),di (kM cf.P st) l=some vs-> ∃us:List Value,(l.mapM (Ti a.tmps)).run cf.P w= .ok us w/\us.length=vs.length/\
     ∀(i:Nat)(c:af)(v:Value),vs[i]?=some c->us[i]?=some v->de E w c v:=by
      intro l
      induction l with
      |nil=>intro vs h;simp only[di]at h;cases h;exact⟨[],rfl,rfl,fun i c v hc=>by simp at hc⟩
      |cons x xs ih=>
       intro vs h;simp only[di]at h
       cases hx:kM cf.P st x with
       |none=>simp[hx]at h
       |some v=>
        cases zN:di (kM cf.P st) xs with
        |none=>simp[hx,zN]at h
        |some fx=>
         simp only[hx,zN]at h;cases h
         obtain⟨u,hu,xA⟩:=one x v hx;obtain⟨us,hus,hl,hr⟩:=ih fx zN;refine⟨u::us,?_,by simp[hl],fun i c v' hc hv=>?_⟩
         ·rw[List.mapM_cons,aa7];rw[hu];simp only[aaE,aa7,hus];rfl
         ·cases i with
          |zero=>simp at hc hv;subst hc hv;exact xA
          |succ i=>exact hr i c v' (by simpa using hc) (by simpa using hv)
   obtain⟨us,hus,hl,hr⟩:=all _ _ h
   have gq:(results fn a.tmps).run cf.P w= .ok (if h:us.toArray.size=1 then us.toArray[0]else .tuple us.toArray) w:=by
    rw[Kf,Array.mapM_eq_mapM_toList,aa7];simp only[Sem.run_map,hus];rfl
   refine⟨_,gq,?_⟩
   match vs,us,hl,hr with
   | [v],[u],_,hr=>exact hr 0 v u rfl rfl
   | [],[],_,_=>exact .eT [] #[] rfl fun i c v hc=>by simp at hc
   |v1::v2::vs,u1::u2::us,hl,hr=>
    rw[dif_neg (by simp)]
    exact .eT _ _ (by simpa using hl.symm) fun i c v hc hv=>hr i c v hc (by simpa using hv)
   | [v],[],hl,_=>simp at hl
   | [v],_::_::_,hl,_=>simp at hl
   | [],_::_,hl,_=>simp at hl
   |_::_::_,[],hl,_=>simp at hl
   |_::_::_,[_],hl,_=>simp at hl
end
structure wj(cf:eP):Prop where
 mixed:cf.P.follows .mixedOrders=true
 code: ∀f fn c,cf.pr f=none->cf.P.funcs[f]?=some fn->fn.body=some c->codeOk cf.P cf.M cf.pm fn.ntmps c=true
 Qf: ∀f p args h r,cf.pr f=some p->p args h=some r-> ∀(E:Env)(w:World)(vs:Array Value),ia cf.P f=true->eG E h w->Full E h->ug cf.G E.S w->hH E w args vs->Calls cf.P f vs w (vX E h w r)
theorem Hh{cf:eP}(ok:wj cf){C:q0}{L:O6}(hS:Sound cf C)(hL:EA cf L):Sound cf (nJ cf C L):=by
 have hC:jl cf C:=fun f args h r hc E w vs hb s hf hg hr=>sM hS hc hb s hf hg hr;intro f args h r hc E w vs hb s hf hg hr;unfold nJ at hc
 cases hp:cf.pr f with
 |some p=>simp only[hp]at hc;exact ok.Qf f p args h r hp hc E w vs hb s hf hg hr
 |none=>
  simp only[hp]at hc
  cases Jw:cf.P.funcs[f]? with
  |none=>simp[Jw]at hc
  |some fn=>
   simp only[Jw]at hc
   cases Xr:fn.body with
   |none=>simp[Xr]at hc
   |some c=>
    simp only[Xr]at hc
    cases he:cQ cf C L c ⟨lP args,h⟩with
    |none=>simp[he,qx]at hc
    |some o=>
     rw[he]at hc;refine calls_of_wp Jw Xr ?_
     have rel:mE cf E w ⟨lP args,h⟩ {tmps:=vs++Array.replicate (fn.ntmps-vs.size) undef,defers:=[]}:=by
      refine⟨s,hf,hg,fun k=>?_,rfl⟩;show de E w (lP args k) _;unfold lP
      by_cases hk:k<args.length
      ·obtain⟨c,hc⟩:=bP hk;have zE:k<vs.size:=by rw[<-hr.1];exact hk
       obtain⟨u,hu⟩:=eM zE;rw[hc]
       have:(vs++Array.replicate (fn.ntmps-vs.size) undef).getD k undef=u:=by
        rw[Array.getD_eq_getD_getElem?,Array.getElem?_append_left zE,hu];rfl
       rw[this];exact hr.2 k c u hc hu
      ·rw[List.getElem?_eq_none (by omega)]
       have:(vs++Array.replicate (fn.ntmps-vs.size) undef).getD k undef=undef:=by
        rw[Array.getD_eq_getD_getElem?,Array.getElem?_append_right (by rw[<-hr.1];omega),Array.getElem?_replicate];split<;>rfl
       rw[this];exact n8
     have jP:fn.ntmps<=(vs++Array.replicate (fn.ntmps-vs.size) undef).size:=by simp;omega
     refine wp_mono (yR ok.mixed hS hC hL c _ o he (Hf jP c (ok.code f fn c hp Jw Xr)) E w _ rel rfl) fun e a' w' hq=>?_
     cases e with
     |normal=>
      obtain⟨fb,E',rfl,jT,x',_⟩:=hq;simp only[qx,nM]at hc;obtain⟨rs,xn,rfl⟩:=hc;obtain⟨u,hu,xA⟩:=qm jT xn
      exact⟨jT.df,u,hu,_,fb.hp,E',rfl,jT.qj,jT.full,x',xA⟩
     |ret=>
      obtain⟨fb,E',rfl,jT,x',_⟩:=hq;simp only[qx,nM]at hc;obtain⟨rs,xn,rfl⟩:=hc;obtain⟨u,hu,xA⟩:=qm jT xn
      exact⟨jT.df,u,hu,_,fb.hp,E',rfl,jT.qj,jT.full,x',xA⟩
     |panic ch=>
      obtain⟨v,h',E',u,rfl,rfl,s',f',x',r',df⟩:=hq;simp only[qx]at hc;cases hc
      exact⟨df,v,h',E',u,rfl,rfl,s',f',x',r'⟩
     |exit id=>
      obtain⟨fb,E',rfl,_⟩:=hq
      simp[qx]at hc
     |goto l=>exact hq
     |outgrown=>exact hq.elim
theorem NF{cf:eP}(ok:wj cf): ∀n,Sound cf (n0 cf n).1/\EA cf (n0 cf n).2:=by
 intro n
 induction n using Nat.strongRecOn with
 |_ n ih=>
  cases n with
  |zero=>exact⟨fun f args h r hc=>by simp[n0]at hc,fun N c st r hc=>by simp[n0]at hc⟩
  |succ n=>
   obtain⟨h1,h2⟩:=ih n (Nat.lt_succ_self n);refine⟨Hh ok h1 h2,?_⟩;intro N c st r hc eb E w a rel hN;refine Hg (fun m a' w'=>m<=n+1/\ ∃fb E',(n0 cf m).2 c fb=some r/\mE cf E' w' fb a'/\Ext E st.hp w E' fb.hp w'/\a'.tmps.size=N) (fun m a' w' hJ=>?_) (n+1) a w ⟨aah _,st,E,hc,rel,Ext.refl _ _ _,hN⟩;obtain⟨hm,fb,E',hl,jT,x',zH⟩:=hJ
   cases m with
   |zero=>simp[n0]at hl
   |succ m=>
    obtain⟨g1,g2⟩:=ih m (by omega);have O8:iN cf (n0 cf m).1 (n0 cf m).2 c fb=some r:=hl;unfold iN at O8
    cases he:cQ cf (n0 cf m).1 (n0 cf m).2 c fb with
    |none=>simp[he]at O8
    |some o=>
     rw[he]at O8;refine wp_mono (yR ok.mixed g1 (fun f args h r hc E w vs hb s hf hg hr=>sM g1 hc hb s hf hg hr) g2 c fb o he eb E' w' a' jT zH) fun e a2 w2 hq=>?_
     cases e with
     |normal=>
      obtain⟨Yp,E2,rfl,EB,x2,VV⟩:=hq
      exact⟨m,Nat.lt_succ_self m,by omega,Yp,E2,O8,EB,x'.trans x2,VV⟩
     |exit id=>obtain⟨Yp,E2,rfl,EB,x2,VV⟩:=hq;cases O8;exact⟨Yp,E2,rfl,EB,x'.trans x2,VV⟩
     |ret=>obtain⟨Yp,E2,rfl,EB,x2,VV⟩:=hq;cases O8;exact⟨Yp,E2,rfl,EB,x'.trans x2,VV⟩
     |panic ch=>obtain⟨v,h',E2,u,rfl,g3,g4,g5,g6,g7,g8⟩:=hq;cases O8;exact⟨v,h',E2,u,rfl,g3,g4,g5,x'.trans g6,g7,g8⟩
     |goto l=>exact hq
     |outgrown=>exact hq
theorem uN{cf:eP}(ok:wj cf):Sound cf (call cf):=by
 intro f args h r hc E w vs hb s hf hg hr;obtain⟨n,hn⟩:=gi hc;exact(NF ok n).1 f args h r hn E w vs hb s hf hg hr
theorem wm{cf:eP}(ok:wj cf):jl cf (call cf):=fun f args h r hc E w vs hb s hf hg hr=>sM (uN ok) hc hb s hf hg hr
end Go.Am
set_option maxHeartbeats 4000000
namespace Go.Am
open Go
def jm(P:Program)(e:TypeId)(ys:List af):af:=
 match P.underlying e with
 |some (.struct _)=>.agg ys
 |some (.array _ _)=>.agg ys
 |_=>match ys with
  | [y]=>y
  |_=>.agg ys
def uO(P:Program):Nat->TypeId->List af->Prop
 |0,_,_=>False
 |n+1,t,xs=>match P.underlying t with
  |some .bool=>∃b,xs=[.bool b]
  |some (.int k)=>∃i,xs=[.int k i]/\(Lit.int k i).wf=true
  |some .string=>∃s:ByteArray,xs=[.str s]/\s.size<=maxLen
  |some (.slice e)=>∃yS:List (List af),xs=[.sl (yS.map (jm P e))]/\yS.length<=maxLen/\ ∀ys∈yS,uO P n e ys
  |some (.struct fs)=>xs.length=P.cellsOf t/\ ∀f∈fs.toList,uO P n f.type ((xs.drop f.offset).take (P.cellsOf f.type))
  |_=>False
def tiled(P:Program):List Field->Nat->Nat->Bool
 | [],off,n=>decide (off=n)
 |f::fs,off,n=>decide (f.offset=off)&&tiled P fs (off+P.cellsOf f.type) n
def Kg(P:Program)(ts:List TypeId):Bool:=
 ts.all fun t=>match P.underlying t with
  |some .bool=>decide (P.cellsOf t=1)
  |some (.int _)=>decide (P.cellsOf t=1)
  |some .string=>decide (P.cellsOf t=1)
  |some (.slice e)=>decide (P.cellsOf t=1)&&(decide (0<P.cellsOf e)&&ts.contains e)
  |some (.struct fs)=>tiled P fs.toList 0 (P.cellsOf t)&&fs.toList.all fun f=>ts.contains f.type
  |_=>false
def oI(w:World)(xs:List af)(cs:List Value):Prop:=xs.length=cs.length/\ ∀(i:Nat)(x:af)(v:Value),xs[i]?=some x->cs[i]?=some v->fD (fun b=>b<w.heap.size) w x v
theorem oI.one{w:World}{x:af}{v:Value}(h:fD (fun b=>b<w.heap.size) w x v):oI w [x] [v]:=⟨rfl,fun i y u hy hu=>by
 cases i with
 |zero=>simp at hy hu;subst hy hu;exact h
 |succ i=>simp at hy⟩
theorem oI.append{w:World}{xs ys:List af}{cs ds:List Value}(h:oI w xs cs)(h':oI w ys ds):oI w (xs++ys) (cs++ds):=by
 refine⟨by simp[h.1,h'.1],fun i x v hx hv=>?_⟩
 by_cases hi:i<xs.length
 ·rw[aaN hi]at hx;rw[aaN (by rw[<-h.1];exact hi)]at hv;exact h.2 i x v hx hv
 ·rw[aaQ (by omega)]at hx;rw[aaQ (by rw[<-h.1];omega),<-h.1]at hv;exact h'.2 _ x v hx hv
theorem uO.mono{P:Program}: ∀{n m:Nat},n<=m-> ∀{t:TypeId}{xs:List af},uO P n t xs->uO P m t xs:=by
 intro n
 induction n with
 |zero=>intro m _ t xs h;exact h.elim
 |succ n ih=>
  intro m hm t xs h
  cases m with
  |zero=>omega
  |succ m=>
   unfold uO at h⊢;split at h
   ·rename_i hu;first|exact h|(simp only[hu];exact h)
   ·rename_i k hu;first|exact h|(simp only[hu];exact h)
   ·rename_i hu;first|exact h|(simp only[hu];exact h)
   ·rename_i e hu
    try simp only[hu]
    obtain⟨yS,h1,h2,h3⟩:=h;exact⟨yS,h1,h2,fun ys hy=>ih (by omega) (h3 ys hy)⟩
   ·rename_i fs hu
    try simp only[hu]
    exact⟨h.1,fun f hf=>ih (by omega) (h.2 f hf)⟩
   ·exact h.elim
theorem uz{P:Program}{n:Nat}{e:TypeId}{ys:List af}(h:uO P n e ys):(jm P e ys).cells=ys:=by
 cases n with
 |zero=>exact h.elim
 |succ n=>
  unfold uO at h;unfold jm;split at h
  ·rename_i hu;try simp only[hu];obtain⟨b,rfl⟩:=h;rfl
  ·rename_i k hu;try simp only[hu];obtain⟨i,rfl,_⟩:=h;rfl
  ·rename_i hu;try simp only[hu];obtain⟨s,rfl,_⟩:=h;rfl
  ·rename_i e' hu;try simp only[hu];obtain⟨yS,rfl,_⟩:=h;rfl
  ·rename_i fs hu;try simp only[hu];rfl
  ·exact h.elim
theorem Ds{P:Program}: ∀(fs:List Field)(off n:Nat),tiled P fs off n=true->off<=n/\ ∀f∈fs,off<=f.offset/\f.offset+P.cellsOf f.type<=n:=by
 intro fs
 induction fs with
 |nil=>intro off n h;simp[tiled]at h;exact⟨by omega,fun f hf=>by cases hf⟩
 |cons f fs ih=>
  intro off n h;simp only[tiled,xz,decide_eq_true_eq]at h;obtain⟨h1,h2⟩:=ih _ _ h.2;refine⟨by omega,fun g hg=>?_⟩;rcases aaz.1 hg with rfl|hg
  ·exact⟨by omega,by omega⟩
  ·obtain⟨h3,h4⟩:=h2 g hg;exact⟨by omega,h4⟩
theorem Qg{P:Program}{w:World}{m n:Nat}{cs:List Value}(sL:cs.length=n): ∀(fs:List Field)(off:Nat),tiled P fs off n=true->(∀f∈fs,∃ys,oI w ys ((cs.drop f.offset).take (P.cellsOf f.type))/\uO P m f.type ys)->
  ∃xs,oI w xs (cs.drop off)/\ ∀f∈fs,uO P m f.type ((xs.drop (f.offset-off)).take (P.cellsOf f.type)):=by
   intro fs
   induction fs with
   |nil=>
    intro off h _;simp[tiled]at h
    exact⟨[],⟨by simp;omega,fun i x v hx=>by simp at hx⟩,fun f hf=>by cases hf⟩
   |cons f fs ih=>
    intro off h hk;have hs:=Ds _ _ _ h;simp only[tiled,xz,decide_eq_true_eq]at h;obtain⟨ho,ht⟩:=h;obtain⟨ys,Yq,Yr⟩:=hk f (by simp);obtain⟨xs,CB,yQ⟩:=ih _ ht fun g hg=>hk g (by simp[hg]);have hle:=(hs.2 f (by simp)).2;have hyl:ys.length=P.cellsOf f.type:=by rw[Yq.1];simp;omega
    refine⟨ys++xs,?_,fun g hg=>?_⟩
    ·have:cs.drop off=(cs.drop f.offset).take (P.cellsOf f.type)++cs.drop (off+P.cellsOf f.type):=by
      rw[ho,<-List.drop_drop,List.take_append_drop]
     rw[this];exact Yq.append CB
    ·rcases aaz.1 hg with rfl|hg
     ·rw[show g.offset-off=0 by omega,List.drop_zero,List.take_append_of_le_length (by omega),abt (by omega)];exact Yr
     ·have dw:=((Ds _ _ _ ht).2 g hg).1;rw[List.drop_append,List.drop_eq_nil_of_le (by omega),List.nil_append,hyl,show g.offset-off-P.cellsOf f.type=g.offset-(off+P.cellsOf f.type) by omega];exact yQ g hg
theorem Qh{H:Type}{enc:TypeId×Value->H}{P:Program}{w:World}{base:Nat}{ts:List TypeId}(hp:Kg P ts=true):
  ∀(n:Nat)(t:TypeId)(cs:List Value)(z:DataW H×List MemPlace),t∈ts->DataW.trod enc P w base (fun _=>true) true n t cs=some z->cs.length=P.cellsOf t/\ ∃xs,oI w xs cs/\uO P n t xs:=by
   intro n
   induction n with
   |zero=>intro t cs z _ h;simp[DataW.trod]at h
   |succ n ih=>
    intro t cs z ht h;have Kh:=aaj.1 hp t ht
    cases hu:P.underlying t with
    |none=>simp only[hu]at Kh;cases Kh
    |some d=>
     simp only[hu]at Kh;cases d<;>simp only at Kh<;>(try(cases Kh;done))
     case bool=>
      simp only[decide_eq_true_eq]at Kh;obtain⟨b,rfl,_⟩:=DataW.trod_bool hu h;exact⟨by simp[Kh],[.bool b],.one (.bool b),by unfold uO;simp only[hu];exact⟨b,rfl⟩⟩
     case int k=>
      simp only[decide_eq_true_eq]at Kh;obtain⟨i,rfl,_,hwf⟩:=DataW.trod_int hu h;exact⟨by simp[Kh],[.int k i],.one (.int k i),by unfold uO;simp only[hu];exact⟨i,rfl,hwf⟩⟩
     case string=>
      simp only[decide_eq_true_eq]at Kh;obtain⟨s,rfl,_,hs⟩:=DataW.trod_string hu h;exact⟨by simp[Kh],[.str s],.one (.str s),by unfold uO;simp only[hu];exact⟨s,rfl,hs⟩⟩
     case slice e=>
      simp only[xz,decide_eq_true_eq,List.contains_iff_mem]at Kh;obtain⟨h1,vR,lT⟩:=Kh;rcases DataW.trod_slice hu h with⟨rfl,_⟩|⟨a,len,cap,elems,rest,m,hm,rfl,hz,hb,hlc,gM,kD,aaP,_,_⟩
      ·refine⟨by simp[h1],[.sl []],.one (.sl [] none 0 0 0 0 (fun _ _=>undef) (fun h=>absurd rfl h) (aah _) (fun x hx=>by simp at hx) (fun i j x c hx=>by simp at hx) (fun i j x c hx=>by simp at hx)),?_⟩;unfold uO;simp only[hu];exact⟨[],rfl,Nat.zero_le _,fun ys hy=>by cases hy⟩
      ·have ja:m=n:=by omega
       subst ja
       have key: ∀i,i<len-> ∃(cs:List Value)(ys:List af),w.cells? base (a.add (i*P.cellsOf e)) (P.cellsOf e)=some cs/\oI w ys cs/\uO P m e ys:=by
        intro i hi;obtain⟨z',hz'⟩:=bP (l:=elems) (i:=i) (by omega);have:=aaP i hi;rw[hz',abC]at this;obtain⟨cs,sL,ht'⟩:=this;obtain⟨_,ys,hys,Tj⟩:=ih e cs z' lT ht';exact⟨cs,ys,sL,hys,Tj⟩
       -- the elements,chosen
       have VW: ∃F:Nat->List af,∀i,i<len-> ∃cs,w.cells? base (a.add (i*P.cellsOf e)) (P.cellsOf e)=some cs/\oI w (F i) cs/\uO P m e (F i):=by
        refine⟨fun i=>if hi:i<len then(key i hi).choose_spec.choose else [],fun i hi=>?_⟩;simp only[dif_pos hi];obtain⟨g1,g2,g3⟩:=(key i hi).choose_spec.choose_spec;exact⟨_,g1,g2,g3⟩
       obtain⟨F,hF⟩:=VW
       let yS:=(List.range len).map F
       have sf: ∀(i:Nat)(x:af),(yS.map (jm P e))[i]?=some x->i<len/\x=jm P e (F i):=by
        intro i x hx;have hi:i<len:=by have:=(aag.1 hx).1;simpa[yS]using this
        simp[yS,hi]at hx;exact⟨hi,hx.symm⟩
       have hlen: ∀i,i<len->(F i).length=P.cellsOf e:=by
        intro i hi;obtain⟨cs,g1,g2,g3⟩:=hF i hi;rw[g2.1];exact(World.cells?_some g1).2.1
       have UK:0<len->a=⟨a.block,a.off,none⟩:=by
        intro h0;obtain⟨cs,g1,g2,g3⟩:=hF 0 h0;obtain⟨_,g5,g6⟩:=World.cells?_some g1;have:=g6 0 vR
        have hc:(w.cell? a).isSome=true:=by
         have e1:((a.add (0*P.cellsOf e)).add 0)=a:=by simp[Addr.add]
         rw[e1]at this;rw[this];simp[g5,vR]
        unfold World.cell? at hc;obtain⟨b,o,sp⟩:=a
        cases sp with
        |none=>rfl
        |some sp=>
         exfalso;simp at hc;split at hc<;>simp at hc
       have sI: ∀i j x c,(yS.map (jm P e))[i]?=some x->x.cells[j]?=some c-> ∃v,w.cell? ⟨a.block,a.off+(i*P.cellsOf e+j),none⟩=some v/\fD (fun b=>b<w.heap.size) w c v:=by
        intro i j x c hx hj;obtain⟨hi,rfl⟩:=sf i x hx;obtain⟨cs,g1,g2,g3⟩:=hF i hi;rw[uz g3]at hj;obtain⟨_,g5,g6⟩:=World.cells?_some g1;have bp:j<cs.length:=by rw[<-g2.1];exact(aag.1 hj).1
        obtain⟨v,hv⟩:=bP bp;refine⟨v,?_,g2.2 j c v hj hv⟩;have:=g6 j (by omega);rw[UK (by omega),Addr.add_mid,Addr.add_mid,hv]at this;rw[<-this,abI]
       refine⟨by simp[h1],[.sl (yS.map (jm P e))],.one ?_,?_⟩
       ·have hll:(yS.map (jm P e)).length=len:=by simp[yS]
        have:=fD.sl (S:=fun b=>b<w.heap.size) (w:=w) (yS.map (jm P e)) (some a) cap (P.cellsOf e) a.block a.off (fun i j=>(w.cell? ⟨a.block,a.off+(i*P.cellsOf e+j),none⟩).getD undef) (fun mD=>?_) (by omega) (fun x hx=>?_) (fun i j x c hx hj=>?_) (fun i j x c hx hj=>?_)
        ·rw[hll]at this;exact this
        ·have h0:0<len:=by rw[<-hll];exact List.length_pos_iff.2 mD
         exact congrArg some (UK h0)
        ·obtain⟨i,hi⟩:=List.mem_iff_getElem?.1 hx;obtain⟨nK,rfl⟩:=sf i x hi;obtain⟨cs,g1,g2,g3⟩:=hF i nK;rw[uz g3];exact hlen i nK
        ·obtain⟨v,hv,_⟩:=sI i j x c hx hj;refine⟨?_,by rw[hv];rfl⟩;unfold World.cell? at hv
         cases hq:w.heap[a.block]? with
         |none=>simp[hq]at hv
         |some o=>exact(aaR.1 hq).1
        ·obtain⟨v,hv,hr⟩:=sI i j x c hx hj;simp only[hv,Option.getD_some];exact hr
       ·unfold uO;simp only[hu];refine⟨yS,rfl,by simp[yS];omega,fun ys hy=>?_⟩;obtain⟨i,hi,rfl⟩:=aaO.1 hy;obtain⟨cs,g1,g2,g3⟩:=hF i (by simpa using hi);exact g3
     case struct fs=>
      simp only[xz]at Kh;obtain⟨Ys,lT⟩:=Kh;obtain⟨zs,m,hm,_,jM,Ge,hfs⟩:=DataW.trod_struct hu h;have ja:m=n:=by omega
      subst ja
      have key: ∀f∈fs.toList,∃ys,oI w ys ((cs.drop f.offset).take (P.cellsOf f.type))/\uO P m f.type ys:=by
       intro f hf;obtain⟨i,hi⟩:=List.mem_iff_getElem?.1 hf;have qz:fs[i]?=some f:=by simpa using hi
       have hz:=hfs i f qz;have fK:i<zs.length:=by rw[Ge];exact(aaR.1 qz).1
       obtain⟨z',hz'⟩:=bP fK;rw[hz']at hz
       have hmf:f.type∈ts:=by
        have:=aaj.1 lT f hf;simpa using this
       obtain⟨_,ys,h1,h2⟩:=ih f.type _ z' hmf hz;exact⟨ys,h1,h2⟩
      obtain⟨xs,CB,yQ⟩:=Qg jM fs.toList 0 Ys key;rw[List.drop_zero]at CB;refine⟨jM,xs,CB,?_⟩;unfold uO;simp only[hu];exact⟨by rw[CB.1];exact jM,fun f hf=>by have:=yQ f hf;simpa using this⟩
end Go.Am

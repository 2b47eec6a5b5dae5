/- From a row's reading of its arguments to Am's values; from Am's 'true' to the row's conclusion. -/
import Derived.Test.YtfepbikckfehlaaGreatGSBmP
import Derived.WideKeyArgs
import Derived.ChangeSame
import Derived.RowKit3
set_option linter.unusedVariables false
set_option linter.unusedSimpArgs false
set_option maxHeartbeats 4000000
namespace Go.Am
open Go
section
variable{cf:dS}{C:pP}{ops:Array Oper}{E:Env}{w:World}{N:Nat}
theorem It{bT:Array Bool}(Q3: ∀j o,ops[j]?=some o-> ∀e∈o.after,Region.binds .any e=true->e.on<j)(hs:bT.size=ops.size)(hr:Region.ready .any ops bT=[]): ∀i,i<ops.size->p9 bT i:=by
 intro i
 induction i using Nat.strongRecOn with
 |_ i ih=>
  intro hi
  cases hl:bT.getD i false with
  |true=>exact hl
  |false=>
   exfalso
   have:i∈Region.ready .any ops bT:=by
    rw[mem_ready];refine⟨by simp[hs,hi]at hl⊢;exact hl,ops[i],Array.getElem?_eq_getElem hi,fun e he hb=>?_⟩;have:=Q3 i _ (Array.getElem?_eq_getElem hi) e he hb;exact ih e.on this (by omega)
   rw[hr]at this;cases this
theorem Oi{tr:Nat->St}{E0:Env}{h0:aC}{w0:World}(hS:Sound cf C)(hC:ia cf C)(dt:vR cf.P cf.M ops=true)(hd: ∀o∈ops.toList,∀d,o.dst=some d->d<N)(ht: ∀i o,ops[i]?=some o->fb cf C ops (tr i) o (tr (i+1)))
  (BQ: ∀j o,ops[j]?=some o->vI cf.M o.op=true->(tr (j+1)).hp=(tr j).hp∨md cf (tr (j+1)) (((lI ops.toList [])[j]?).getD 0) (ops.toList.take j) 0)
  {Q:Exit->Act->World->Prop} (hQ: ∀(E:Env)(bT:Array Bool)(a:Act)(w:World),Oe cf ops tr E0 h0 w0 N E ops.size bT a w->(∀i,i<ops.size->p9 bT i)->Q .normal a w):
  ∀(fuel:Nat)(E:Env)(q:Nat)(bT:Array Bool)(a:Act)(w:World),Oe cf ops tr E0 h0 w0 N E q bT a w->bT.toList.count false=fuel->wpAny cf.P .any ops Q fuel bT a w:=by
   obtain⟨Q3,rA⟩:=xk dt
   have fin: ∀(E:Env)(q:Nat)(bT:Array Bool)(a:Act)(w:World),Oe cf ops tr E0 h0 w0 N E q bT a w->(∀i,i<ops.size->p9 bT i)->Q .normal a w:=by
    intro E q bT a w inv aD
    have hq:q=ops.size:=by
     rcases Nat.lt_or_ge q ops.size with h|h
     ·exact absurd (aD q h) (inv.wq h).2
     ·have:=inv.Wi;omega
    subst hq;exact hQ E bT a w inv aD
   intro fuel
   induction fuel with
   |zero=>
    intro E q bT a w inv hc
    have aD: ∀i,i<ops.size->p9 bT i:=by
     intro i hi;have mg:i<bT.size:=by rw[inv.size];exact hi
     have N4:=List.count_eq_zero.1 hc
     cases hb:bT[i]with
     |true=>simp[p9,mg,hb]
     |false=>exact absurd (by rw[<-hb];simp) N4
    refine⟨?_,fin E q bT a w inv aD⟩;refine List.eq_nil_iff_forall_not_mem.2 fun i hi=>?_;obtain⟨Q4,o,ho,_⟩:=mem_ready.1 hi;have Vr:i<ops.size:=(Array.getElem?_eq_some_iff.1 ho).1;have:=aD i Vr;unfold p9 at this;have mg:i<bT.size:=by rw[inv.size];exact Vr
    simp[mg]at this Q4;rw[this]at Q4
    cases Q4
   |succ fuel ih=>
    intro E q bT a w inv hc;refine⟨fun hr=>fin E q bT a w inv (It Q3 inv.size hr),fun i hi=>?_⟩;refine LN hS hC dt hd ht BQ inv hi fun E' q' a' w' YV=>ih E' q' _ a' w' YV ?_;obtain⟨Q4,o,ho,_⟩:=mem_ready.1 hi
    have mg:i<bT.toList.length:=by
     have:=(Array.getElem?_eq_some_iff.1 ho).1;simp[inv.size];exact this
    have YW:i<bT.size:=by simpa using mg
    have XZ:bT.toList[i]=false:=by simp[YW]at Q4;simpa using Q4
    rw[Array.toList_setIfInBounds,List.count_set mg,hc,XZ];simp
theorem vS(hS:Sound cf C)(hC:ia cf C)(dt:vR cf.P cf.M ops=true)(hd: ∀o∈ops.toList,∀d,o.dst=some d->d<N){st Np:St}{a:Act}
  (hr:jh cf C true ops ops.toList st=some (.norm Np)) (rel:kZ cf E w st a) (hN:a.tmps.size=N):wpAny cf.P .any ops (zi cf E st.hp w N (.norm Np)) ops.size (Array.replicate ops.size false) a {w with drawn:=w.drawn+1}:=by
   obtain⟨tr,t0,tn,ts⟩:=Oa _ _ _ hr;have ht: ∀i o,ops[i]?=some o->fb cf C ops (tr i) o (tr (i+1)):=fun i o ho=>(ts i o (by simpa using ho)).1
   have BQ: ∀j o,ops[j]?=some o->vI cf.M o.op=true->(tr (j+1)).hp=(tr j).hp∨md cf (tr (j+1)) (((lI ops.toList [])[j]?).getD 0) (ops.toList.take j) 0:=by
    intro j o ho hf;have hj:j<ops.size:=(Array.getElem?_eq_some_iff.1 ho).1;rcases(ts j o (by simpa using ho)).2 hf with h|h
    ·exact .inl h.2
    ·right
     rw[show ops.size-(ops.toList.length-j)=j by simp;omega]at h;exact h
   have Wt:tr ops.size=Np:=by rw[<-tn];simp
   obtain⟨q,zn,pg,A2,Vu⟩:=Of cf.M ops ops.size 0 (by omega)
   have pe: ∀i,i<=q->(tr 0).hp <+:(tr i).hp:=fun i hi=>by
    have:=se ht i 0 (by omega) fun k o h1 h2 ho=>A2 k o h1 (by omega) ho;simpa using this
   have Kq: ∀k,¬p9 (Array.replicate ops.size false) k:=fun k h=>by
    unfold p9 at h;simp at h
    cases hx:(Array.replicate ops.size false)[k]? with
    |none=>simp[hx]at h
    |some b=>
     rw[Array.getElem?_replicate]at hx;split at hx
     ·cases hx;simp_all
     ·cases hx
   have YX:dL E (tr 0).hp w:=by rw[t0];exact rel.oJ
   have Oj:Full E (tr 0).hp:=by rw[t0];exact rel.full
   have YY:dL E (tr q).hp {w with drawn:=w.drawn+1}:=(YX.more (pe q (aB _)) Oj).of_heap rfl
   have SG: ∀m,m<q->(tr m).hp.length<=(tr (m+1)).hp.length:=fun m hm=>by
    have Vt:m<ops.size:=by omega
    exact((ht m ops[m] (Array.getElem?_eq_getElem Vt)).BP (A2 m ops[m] (Nat.zero_le _) hm (Array.getElem?_eq_getElem Vt))).length_le
   refine Oi (E0:=E) (h0:=st.hp) (w0:=w) hS hC dt hd ht BQ ?_ ops.size E q _ a _ ⟨by simp,fun j o _ h=>absurd h (Kq j),pg,fun i o hi ho hx=>?_,fun hq=>⟨Vu hq,Kq q⟩,YY,fun k hk=>Oj k (bw (pe q (aB _)).length_le hk),fun i hi _ k h1 _=>Oj k (bw (pe i (by omega)).length_le h1),fun j t hj h1 h2=>?_,rel.g.mono (fun _ h=>h) (fun _ _=>rfl),rel.df,hN,
    ⟨⟨fun _ h=>h,fun _ h=>.inl h,fun _ _ _=>rfl,fun _ _ h=>.inl h,fun _ h=>.inl h,by rw[<-t0];exact(pe q (aB _)).length_le,aB _,rfl,rfl,rfl⟩,fun _ _ h=>h⟩,SG,by rw[t0];exact aB _⟩ ?_
   ·intro E' bT a' w' inv aD;refine⟨Np,E',rfl,⟨?_,?_,inv.g,fun t=>?_,inv.df⟩,?_,inv.sz⟩
    ·rw[<-Wt];exact inv.oJ
    ·rw[<-Wt];exact inv.full
    ·rw[<-Wt]
     exact inv.tm ops.size t (aB _) (fun i o hi _ _=>aD i hi) fun i o hi ho _=>by
      have:=(Array.getElem?_eq_some_iff.1 ho).1;omega
    ·rw[<-Wt];exact inv.ext
   ·exact absurd (A2 i o (Nat.zero_le _) hi ho) (by rw[hx];simp)
   ·have:=lj ht (t:=t) j 0 (by omega) fun k o _ hk ho l8=>Kq k (h1 k o (by omega) ho l8);rw[bg]at this;rw[this,t0];exact ck.of_heap (w:=w) (w':={w with drawn:=w.drawn+1}) rfl (rel.tm t)
   ·simp
end
def Iu(p:List Nat)(n:Nat):Bool:=p.length==n&&p.all (fun i=>decide (i<n))&&decide p.Nodup&&(List.range n).all fun i=>p.contains i
structure Perm(p:List Nat)(n:Nat):Prop where
 len:p.length=n
 lt: ∀i∈p,i<n
 nd:p.Nodup
 all: ∀i,i<n->i∈p
theorem EY{p:List Nat}{n:Nat}(h:Iu p n=true):Perm p n:=by
 simp only[Iu,aj,beq_iff_eq,aG,decide_eq_true_eq]at h;obtain⟨⟨⟨h1,h2⟩,h3⟩,h4⟩:=h;exact⟨h1,h2,h3,fun i hi=>by have:=h4 i (List.mem_range.2 hi);simpa using this⟩
theorem zo(p:List Nat)(ops:Array Oper): ∀(l:List Nat),(∀i∈l,i<ops.size)-> ∀k:Nat,(kg p ops l)[k]?=(l[k]?).bind fun i=>(ops[i]?).map (ld p)
 | [],_,k=>by simp[kg]
 |i::is,h,k=>by
  have hi:i<ops.size:=h i (by simp);have ho:ops[i]?=some ops[i]:=Array.getElem?_eq_getElem hi;simp only[kg,ho]
  cases k with
  |zero=>simp[ho]
  |succ k=>simpa using zo p ops is (fun j hj=>h j (by simp[hj])) k
theorem zp(p:List Nat)(ops:Array Oper): ∀(l:List Nat),(∀i∈l,i<ops.size)->(kg p ops l).length=l.length
 | [],_=>rfl
 |i::is,h=>by
  have hi:i<ops.size:=h i (by simp);have ho:ops[i]?=some ops[i]:=Array.getElem?_eq_getElem hi;simp only[kg,ho,aJ,zp p ops is fun j hj=>h j (by simp[hj])]
section
variable{P:Program}{ops:Array Oper}{p:List Nat}{Q:Exit->Act->World->Prop}
theorem Perm.Ok(hp:Perm p ops.size){i:Nat}(hi:i<ops.size):p.idxOf i<ops.size:=by rw[<-hp.len];exact List.idxOf_lt_length_iff.2 (hp.all i hi)
theorem Perm.CV(hp:Perm p ops.size){i:Nat}(hi:i<ops.size):p[p.idxOf i]?=some i:=by
 have hl:=List.idxOf_lt_length_iff.2 (hp.all i hi);rw[au hl,List.getElem_idxOf hl]
theorem Perm.Rc(hp:Perm p ops.size){k i:Nat}(hk:p[k]?=some i):p.idxOf i=k:=by
 obtain⟨hl,he⟩:=az.1 hk;subst he;exact hp.nd.idxOf_getElem k hl
theorem Perm.Ol(hp:Perm p ops.size){i:Nat}(hi:ops.size<=i):p.idxOf i=ops.size:=by
 rw[<-hp.len];exact List.idxOf_eq_length fun hm=>by have:=hp.lt i hm;omega
theorem Iv(hp:Perm p ops.size):(nY p ops).size=ops.size:=by simp[nY,zp p ops p hp.lt,hp.len]
theorem BS(hp:Perm p ops.size)(k:Nat):(nY p ops)[k]?=(p[k]?).bind fun i=>(ops[i]?).map (ld p):=by
 rw[<-zo p ops p hp.lt k];simp[nY]
theorem vU(hp:Perm p ops.size)(i:Nat):(nY p ops)[p.idxOf i]?=(ops[i]?).map (ld p):=by
 rw[BS hp];rcases Nat.lt_or_ge i ops.size with h|h
 ·rw[hp.CV h];rfl
 ·rw[hp.Ol h,List.getElem?_eq_none (by rw[hp.len];exact aB _),Array.getElem?_eq_none h];rfl
theorem Bb(hp:Perm p ops.size)(tmps:Array Value)(j:Nat):yielded (nY p ops) tmps (p.idxOf j)=yielded ops tmps j:=by
 unfold yielded;rw[vU hp];cases ops[j]?<;>rfl
theorem CW(hp:Perm p ops.size)(tmps:Array Value)(o:Oper):Region.wanted (ld p o) (yielded (nY p ops) tmps)=Region.wanted o (yielded ops tmps):=by
 unfold Region.wanted ld
 cases o.guard with
 |none=>rfl
 |some g=>simp only[bh,Bb hp]
theorem Om(o:Oper)(a:Act)(w:World)(K:Act->World->Prop):(ld p o).wp P a w K Q↔o.wp P a w K Q:=by
 cases o
 exact Iff.rfl
theorem Iw(o:Oper)(a:Act)(w:World):(ld p o).asks P a w↔o.asks P a w:=by
 cases o
 exact Iff.rfl
theorem Ix(hp:Perm p ops.size)(i:Nat)(K:Act->World->Prop)(a:Act)(w:World)(h:wpOp P (nY p ops) Q (p.idxOf i) K a w):wpOp P ops Q i K a w:=by
 unfold wpOp at h⊢;rw[vU hp]at h
 cases ho:ops[i]? with
 |none=>rw[ho]at h;exact h
 |some o=>
  rw[ho]at h;simp only[bh,CW hp]at h⊢;split
  ·rename_i hw;rw[if_pos hw]at h;exact h.imp (Om o a w K).1 fun h=>⟨(Iw o a w).1 h.1,h.2⟩
  ·rename_i hw;rw[if_neg hw]at h;exact h
def RL(p:List Nat)(n:Nat)(l l':Array Bool):Prop:=l.size=n/\l'.size=n/\ ∀i,i<n->l'[p.idxOf i]?=l[i]?
theorem RL.get(hp:Perm p ops.size){l l':Array Bool}(h:RL p ops.size l l')(i:Nat)(b:Bool):l'.getD (p.idxOf i) b=l.getD i b:=by
 rcases Nat.lt_or_ge i ops.size with hi|hi
 ·have:=h.2.2 i hi;simp[Array.getD_eq_getD_getElem?,this]
 ·rw[hp.Ol hi,Array.getD_eq_getD_getElem?,Array.getD_eq_getD_getElem?,Array.getElem?_eq_none (by rw[h.2.1];exact aB _),Array.getElem?_eq_none (by rw[h.1];exact hi)]
theorem zq{p:List Nat}{o:Oper}{e:Edge}:e∈(ld p o).after↔ ∃e',e'∈o.after/\{e' with on:=p.idxOf e'.on}=e:=by simp[ld]
theorem RL.ready(hp:Perm p ops.size){l l':Array Bool}(h:RL p ops.size l l')(i:Nat):i∈Region.ready .any ops l->p.idxOf i∈Region.ready .any (nY p ops) l':=by
 intro hi;rw[mem_ready]at hi⊢;obtain⟨h1,o,ho,h2⟩:=hi;refine⟨by rw[h.get hp];exact h1,ld p o,by rw[vU hp,ho];rfl,fun e he hb=>?_⟩;obtain⟨e',zc,rfl⟩:=zq.1 he;rw[h.get hp];exact h2 e' zc hb
theorem RL.T4(hp:Perm p ops.size){l l':Array Bool}(h:RL p ops.size l l')(k:Nat):k∈Region.ready .any (nY p ops) l'-> ∃i∈Region.ready .any ops l,p.idxOf i=k:=by
 intro hk;rw[mem_ready]at hk;obtain⟨h1,o',gI,h2⟩:=hk;rw[BS hp]at gI
 cases YZ:p[k]? with
 |none=>rw[YZ]at gI;cases gI
 |some i=>
  rw[YZ]at gI;simp only[Option.bind_some,ai]at gI;obtain⟨o,ho,rfl⟩:=gI;have Lz:=hp.Rc YZ;refine⟨i,?_,Lz⟩;rw[mem_ready];subst Lz;refine⟨by rw[<-h.get hp];exact h1,o,ho,fun e he hb=>?_⟩;have:=h2 {e with on:=p.idxOf e.on} (zq.2 ⟨e,he,rfl⟩) hb;rw[<-h.get hp];exact this
theorem RL.set(hp:Perm p ops.size){l l':Array Bool}(h:RL p ops.size l l'){i:Nat}(hi:i<ops.size):RL p ops.size (l.setIfInBounds i true) (l'.setIfInBounds (p.idxOf i) true):=by
 refine⟨by simpa using h.1,by simpa using h.2.1,fun j hj=>?_⟩;rw[Array.getElem?_setIfInBounds,Array.getElem?_setIfInBounds]
 by_cases e:i=j
 ·subst e;rw[if_pos rfl,if_pos rfl,if_pos (by rw[h.2.1];exact hp.Ok hi),if_pos (by rw[h.1];exact hi)]
 ·rw[if_neg e,if_neg (fun e'=>e ?_)]
  ·exact h.2.2 j hj
  ·have h1:=hp.CV hi;rw[e',hp.CV hj]at h1;cases h1
   rfl
theorem LP(hp:Perm p ops.size): ∀(fuel:Nat)(l l':Array Bool)(a:Act)(w:World),RL p ops.size l l'->wpAny P .any (nY p ops) Q fuel l' a w->wpAny P .any ops Q fuel l a w:=by
 intro fuel
 induction fuel with
 |zero=>
  intro l l' a w h hw;refine⟨List.eq_nil_iff_forall_not_mem.2 fun i hi=>?_,hw.2⟩;have:=h.ready hp i hi;rw[hw.1]at this
  cases this
 |succ fuel ih=>
  intro l l' a w h hw;refine⟨fun hr=>hw.1 (List.eq_nil_iff_forall_not_mem.2 fun k hk=>?_),fun i hi=>?_⟩
  ·obtain⟨i,hi,_⟩:=h.T4 hp k hk;rw[hr]at hi;cases hi
  ·have Vr:i<ops.size:=by
    obtain⟨_,o,ho,_⟩:=mem_ready.1 hi;exact(Array.getElem?_eq_some_iff.1 ho).1
   refine Ix hp i _ a w (wpOp_mono (fun a w hk=>?_) (hw.2 _ (h.ready hp i hi)));exact ih _ _ a w (h.set hp Vr) hk
end
def Kx(pm:Nat->Nat->Nat->Option (List Nat))(id:Nat)(ops:Array Oper):Bool:=match pm id ops.size (((ops[0]?).bind (·.dst)).getD 0)with
 |some p=>Iu p ops.size
 |none=>true
theorem Rd{P:Program}{Q:Exit->Act->World->Prop}{pm:Nat->Nat->Nat->Option (List Nat)}{id:Nat}{ops:Array Oper}(h:Kx pm id ops=true){a:Act}{w:World}
  (hw:wpAny P .any (J4 pm id ops true) Q (J4 pm id ops true).size (Array.replicate (J4 pm id ops true).size false) a w):wpAny P .any ops Q ops.size (Array.replicate ops.size false) a w:=by
   unfold Kx at h;unfold J4 at hw;simp only at hw;split at h
   ·rename_i p hp;simp only[hp]at hw;have hq:=EY h;rw[Iv hq]at hw;exact LP hq _ _ _ a w ⟨by simp,by simp,fun i hi=>by rw[Array.getElem?_replicate,Array.getElem?_replicate,if_pos hi,if_pos (hq.Ok hi)]⟩ hw
   ·rename_i hp;simp only[hp]at hw;exact hw
theorem Re{pm:Nat->Nat->Nat->Option (List Nat)}{id:Nat}{ops:Array Oper}{d:Bool}{o:Oper}(h:o∈(J4 pm id ops d).toList): ∃o'∈ops.toList,o.dst=o'.dst:=by
 have key: ∀(p l:List Nat),o∈kg p ops l-> ∃o'∈ops.toList,o.dst=o'.dst:=by
  intro p l
  induction l with
  |nil=>intro h;simp[kg]at h
  |cons i is ih=>
   intro h;simp only[kg]at h;split at h
   ·rename_i x hx;rcases aW.1 h with rfl|h
    ·obtain⟨hl,rfl⟩:=Array.getElem?_eq_some_iff.1 hx;exact⟨ops[i],by simp,rfl⟩
    ·exact ih h
   ·exact ih h
 unfold J4 at h;split at h
 ·exact⟨o,h,rfl⟩
 ·split at h
  ·exact key _ _ (by simpa[nY]using h)
  ·exact⟨o,h,rfl⟩
def codeOk(P:Program)(M:FuncId->Mode)(pm:Nat->Nat->Nat->Option (List Nat))(N:Nat):Code->Bool
 | .region id ops d=>(ops.toList.all fun o=>match o.dst with|some d=>decide (d<N)|none=>true)&&(!d||(Kx pm id ops&&vR P M (J4 pm id ops true)))
 | .seq a b=>codeOk P M pm N a&&codeOk P M pm N b
 | .cond _ a b=>codeOk P M pm N a&&codeOk P M pm N b
 | .block _ c=>codeOk P M pm N c
 | .loop c=>codeOk P M pm N c
 | .scope c=>codeOk P M pm N c
 |_=>true
theorem EZ{P:Program}{M:FuncId->Mode}{pm:Nat->Nat->Nat->Option (List Nat)}{N N':Nat}(hN:N<=N'): ∀c:Code,codeOk P M pm N c=true->codeOk P M pm N' c=true:=by
 intro c
 induction c with
 |region id ops d=>
  intro h;simp only[codeOk,aj]at h⊢;refine⟨aG.2 fun o ho=>?_,h.2⟩;have:=aG.1 h.1 o ho
  cases hd:o.dst with
  |none=>rfl
  |some d=>simp only[hd,decide_eq_true_eq]at this⊢;exact Nat.lt_of_lt_of_le this hN
 |seq a b rf rh=>intro h;simp only[codeOk,aj]at h⊢;exact⟨rf h.1,rh h.2⟩
 |cond c a b rf rh=>intro h;simp only[codeOk,aj]at h⊢;exact⟨rf h.1,rh h.2⟩
 |block id c ih=>intro h;simp only[codeOk]at h⊢;exact ih h
 |loop c ih=>intro h;simp only[codeOk]at h⊢;exact ih h
 |scope c ih=>intro h;simp only[codeOk]at h⊢;exact ih h
 |_=>intro _;rfl
def CX(cf:dS)(L:Ng):Prop:=∀(N:Nat)(c:Code)(st:St)(r:Out),L c st=some r->codeOk cf.P cf.M cf.pm N c=true-> ∀(E:Env)(w:World)(a:Act),kZ cf E w st a->a.tmps.size=N->(Code.loop c).wp cf.P (zi cf E st.hp w N r) a w
theorem E4{P:Program}{Q:Exit->Act->World->Prop}{c:Code}(J:Nat->Act->World->Prop)(round: ∀n a w,J n a w->c.wp P (Exit.then (fun a' w'=>∃m,m<n/\J m a' w') Q) a w): ∀n a w,J n a w->(Code.loop c).wp P Q a w:=by
 intro n a w h0 b k cs
 have key: ∀n a w,J n a w-> ∃e a' w',Q e a' w'/\Arrives P (lone (b.at a (.code c:: .inLoop c::k)) cs w) b k cs e a' w':=by
  intro n
  induction n using Nat.strongRecOn with
  |_ n ih=>
   intro a w hJ;obtain⟨e,a₁,w₁,hq,mT⟩:=round n a w hJ b (.inLoop c::k) cs
   cases e with
   |normal=>
    obtain⟨m,hm,Y0⟩:=hq;obtain⟨e₂,a₂,w₂,Y1,On⟩:=ih m hm a₁ w₁ Y0
    exact⟨e₂,a₂,w₂,Y1,.of_steps (Steps.trans mT (.one step_inLoop)) On⟩
   |exit id=>exact⟨_,a₁,w₁,hq,.pass (x:=.inLoop c) rfl (fun _ _=>.inl (by simp)) mT⟩
   |goto l=>exact⟨_,a₁,w₁,hq,.pass (x:=.inLoop c) rfl (fun _ _=>.inl (by simp)) mT⟩
   |ret=>exact⟨_,a₁,w₁,hq,.pass (x:=.inLoop c) rfl (fun _ _=>.inl (by simp)) mT⟩
   |panic ch=>exact⟨_,a₁,w₁,hq,.pass (x:=.inLoop c) rfl (fun _ _=>.inl (by simp)) mT⟩
   |outgrown=>exact⟨_,a₁,w₁,hq,.pass (x:=.inLoop c) rfl (fun _ _=>.inl (by simp)) mT⟩
 obtain⟨e,a',w',hq,mT⟩:=key n a w h0;exact⟨e,a',w',hq,.of_steps (.one step_loop) mT⟩
section
variable{cf:dS}{C:pP}{L:Ng}
theorem xn(hm:cf.P.follows .mixedOrders=true)(hS:Sound cf C)(hC:ia cf C)(hL:CX cf L){N:Nat}: ∀(c:Code)(st:St)(r:Out),bW cf C L c st=some r->codeOk cf.P cf.M cf.pm N c=true-> ∀(E:Env)(w:World)(a:Act),kZ cf E w st a->a.tmps.size=N->
  c.wp cf.P (zi cf E st.hp w N r) a w:=by
   intro c
   induction c with
   |skip=>intro st r h dt E w a rel hN;simp only[bW]at h;cases h;exact wp_skip ⟨st,E,rfl,rel,Ext.refl _ _ _,hN⟩
   |label l=>intro st r h dt E w a rel hN;simp only[bW]at h;cases h;exact wp_label ⟨st,E,rfl,rel,Ext.refl _ _ _,hN⟩
   |exit id=>intro st r h dt E w a rel hN;simp only[bW]at h;cases h;exact wp_exit ⟨st,E,rfl,rel,Ext.refl _ _ _,hN⟩
   |ret=>intro st r h dt E w a rel hN;simp only[bW]at h;cases h;exact wp_ret ⟨st,E,rfl,rel,Ext.refl _ _ _,hN⟩
   |region id ops d=>
    intro st r h dt E w a rel hN;simp only[bW]at h;simp only[codeOk,aj]at dt
    have hd: ∀o∈ops.toList,∀d,o.dst=some d->d<N:=fun o ho d hd=>by
     have:=aG.1 dt.1 o ho;simpa[hd]using this
    obtain⟨h1,h2⟩:=pT h
    cases d with
    |false=>exact wp_region_list (Ik hC _ E w st a r hd h1 rel hN)
    |true=>
     obtain⟨Np,rfl⟩:=h2 rfl;have Oo:Kx cf.pm id ops=true/\vR cf.P cf.M (J4 cf.pm id ops true)=true:=by simpa using dt.2
     refine wp_region_any hm (Rd Oo.1 (vS hS hC Oo.2 (fun o ho d HF=>?_) h1 rel hN));obtain⟨o',gI,he⟩:=Re ho
     exact hd o' gI d (by rw[<-he];exact HF)
   |seq x y T5 Y2=>
    intro st r h dt E w a rel hN;simp only[bW]at h;simp only[codeOk,aj]at dt
    cases hx:bW cf C L x st with
    |none=>simp[hx]at h
    |some q=>
     simp only[hx]at h;refine wp_seq (wp_mono (T5 st q hx dt.1 E w a rel hN) fun e a' w' he=>?_)
     cases e with
     |normal=>
      obtain⟨d8,E',rfl,iS,x',yf⟩:=he
      exact wp_mono (Y2 d8 r h dt.2 E' w' a' iS yf) (zi.from x')
     |exit id=>obtain⟨d8,E',rfl,iS,x',yf⟩:=he;cases h;exact⟨d8,E',rfl,iS,x',yf⟩
     |ret=>obtain⟨d8,E',rfl,iS,x',yf⟩:=he;cases h;exact⟨d8,E',rfl,iS,x',yf⟩
     |panic ch=>obtain⟨v,h',E',u,rfl,rest⟩:=he;cases h;exact⟨v,h',E',u,rfl,rest⟩
     |goto l=>exact he
     |outgrown=>exact he
   |cond c x y T5 Y2=>
    intro st r h dt E w a rel hN;simp only[bW]at h;simp only[codeOk,aj]at dt;split at h
    ·rename_i t ht;have hc:a.eval c= .bool t:=(yT rel.g rel.tm ht).bool;refine wp_cond hc ?_
     cases t with
     |true=>exact T5 st r h dt.1 E w a rel hN
     |false=>exact Y2 st r h dt.2 E w a rel hN
    ·cases h
   |block id x ih=>
    intro st r h dt E w a rel hN;simp only[bW]at h;simp only[codeOk]at dt
    cases hx:bW cf C L x st with
    |none=>simp[hx]at h
    |some q=>
     simp only[hx]at h;refine wp_block (wp_mono (ih st q hx dt E w a rel hN) fun e a' w' he=>?_)
     cases e with
     |normal=>obtain⟨d8,E',rfl,iS,x',yf⟩:=he;cases h;exact⟨d8,E',rfl,iS,x',yf⟩
     |exit j=>
      obtain⟨d8,E',rfl,iS,x',yf⟩:=he;simp only at h;simp only[Exit.inBlock];split at h
      ·rename_i hj;cases h;rw[if_pos hj];exact⟨d8,E',rfl,iS,x',yf⟩
      ·rename_i hj;cases h;rw[if_neg hj];exact⟨d8,E',rfl,iS,x',yf⟩
     |ret=>obtain⟨d8,E',rfl,iS,x',yf⟩:=he;cases h;exact⟨d8,E',rfl,iS,x',yf⟩
     |panic ch=>obtain⟨v,h',E',u,rfl,rest⟩:=he;cases h;exact⟨v,h',E',u,rfl,rest⟩
     |goto l=>exact he
     |outgrown=>exact he
   |loop x ih=>
    intro st r h dt E w a rel hN;simp only[bW]at h;simp only[codeOk]at dt
    exact hL N x st r h dt E w a rel hN
   |scope x ih=>
    intro st r h dt E w a rel hN;simp only[bW]at h;simp only[codeOk]at dt;refine wp_scope_straight (wp_mono (ih st r h dt E w a rel hN) fun e a' w' he=>?_)
    cases e<;>exact he
   |rangeFunc f p x y _ _=>intro st r h;simp[bW]at h
   |goto l=>intro st r h;simp[bW]at h
   |refuse wy=>intro st r h;simp[bW]at h
def Rf(tmps:Array Value):ResultVar->Sem Value
 | .tmp t=>pure (tmps.getD t undef)
 | .cell ad t=>do loadVar t (<-asAddr (tmps.getD ad undef))
theorem Iy(fn:Func)(tmps:Array Value):results fn tmps=(do let vs<-fn.results.mapM (Rf tmps);pure (if h:vs.size=1 then vs[0]else .tuple vs)):=rfl
theorem oM{E:Env}{w:World}{st:St}{a:Act}(rel:kZ cf E w st a){fn:Func}{vs:List af}(h:cp (i6 cf.P st) fn.results.toList=some vs):
  ∃u,(results fn a.tmps).run cf.P w= .ok u w/\ck E w (CG vs) u:=by
   have one: ∀(rv:ResultVar)(v:af),i6 cf.P st rv=some v-> ∃u,(Rf a.tmps rv).run cf.P w= .ok u w/\ck E w v u:=by
    intro rv v hv
    cases rv with
    |tmp t=>simp only[i6]at hv;cases hv;exact⟨_,rfl,rel.tm t⟩
    |cell ad t=>
     simp only[i6]at hv;obtain⟨u,hu,hr⟩:=yU rel.oJ (rel.tm ad) hv;refine⟨u,?_,hr⟩;simp only[Rf];generalize a.tmps.getD ad undef=va at hu⊢;unfold Instr.loadAt Instr.sureAddr at hu;split at hu
     ·simpa[asAddr]using hu
     ·simp[stuck,Sem.run]at hu
   have all: ∀(l:List ResultVar)(vs:List af),cp (i6 cf.P st) l=some vs-> ∃us:List Value,(l.mapM (Rf a.tmps)).run cf.P w= .ok us w/\us.length=vs.length/\
     ∀(i:Nat)(c:af)(v:Value),vs[i]?=some c->us[i]?=some v->ck E w c v:=by
      intro l
      induction l with
      |nil=>intro vs h;simp only[cp]at h;cases h;exact⟨[],rfl,rfl,fun i c v hc=>by simp at hc⟩
      |cons x xs ih=>
       intro vs h;simp only[cp]at h
       cases hx:i6 cf.P st x with
       |none=>simp[hx]at h
       |some v=>
        cases yl:cp (i6 cf.P st) xs with
        |none=>simp[hx,yl]at h
        |some eo=>
         simp only[hx,yl]at h;cases h
         obtain⟨u,hu,vM⟩:=one x v hx;obtain⟨us,Y3,hl,hr⟩:=ih eo yl;refine⟨u::us,?_,by simp[hl],fun i c v' hc hv=>?_⟩
         ·rw[List.mapM_cons,Sem.run_bind];rw[hu];simp only[Result.andThen_ok,Sem.run_bind,Y3];rfl
         ·cases i with
          |zero=>simp at hc hv;subst hc hv;exact vM
          |succ i=>exact hr i c v' (by simpa using hc) (by simpa using hv)
   obtain⟨us,Y3,hl,hr⟩:=all _ _ h
   have fl:(results fn a.tmps).run cf.P w= .ok (if h:us.toArray.size=1 then us.toArray[0]else .tuple us.toArray) w:=by
    rw[Iy,Array.mapM_eq_mapM_toList,Sem.run_bind];simp only[Sem.run_map,Y3];rfl
   refine⟨_,fl,?_⟩
   match vs,us,hl,hr with
   | [v],[u],_,hr=>exact hr 0 v u rfl rfl
   | [],[],_,_=>exact .dX [] #[] rfl fun i c v hc=>by simp at hc
   |v1::v2::vs,u1::u2::us,hl,hr=>
    rw[dif_neg (by simp)]
    exact .dX _ _ (by simpa using hl.symm) fun i c v hc hv=>hr i c v hc (by simpa using hv)
   | [v],[],hl,_=>simp at hl
   | [v],_::_::_,hl,_=>simp at hl
   | [],_::_,hl,_=>simp at hl
   |_::_::_,[],hl,_=>simp at hl
   |_::_::_,[_],hl,_=>simp at hl
end
structure uA(cf:dS):Prop where
 mixed:cf.P.follows .mixedOrders=true
 code: ∀f fn c,cf.pr f=none->cf.P.funcs[f]?=some fn->fn.body=some c->codeOk cf.P cf.M cf.pm fn.ntmps c=true
 Oq: ∀f p args h r,cf.pr f=some p->p args h=some r-> ∀(E:Env)(w:World)(vs:Array Value),fW cf.P f=true->dL E h w->Full E h->sE cf.G E.S w->fS E w args vs->Calls cf.P f vs w (uo E h w r)
theorem E5{cf:dS}(ok:uA cf){C:pP}{L:Ng}(hS:Sound cf C)(hL:CX cf L):Sound cf (me cf C L):=by
 have hC:ia cf C:=fun f args h r hc E w vs hb s hf hg hr=>ru hS hc hb s hf hg hr;intro f args h r hc E w vs hb s hf hg hr;unfold me at hc
 cases hp:cf.pr f with
 |some p=>simp only[hp]at hc;exact ok.Oq f p args h r hp hc E w vs hb s hf hg hr
 |none=>
  simp only[hp]at hc
  cases HC:cf.P.funcs[f]? with
  |none=>simp[HC]at hc
  |some fn=>
   simp only[HC]at hc
   cases Vv:fn.body with
   |none=>simp[Vv]at hc
   |some c=>
    simp only[Vv]at hc
    cases he:bW cf C L c ⟨ko args,h⟩with
    |none=>simp[he,oZ]at hc
    |some o=>
     rw[he]at hc;refine calls_of_wp HC Vv ?_
     have rel:kZ cf E w ⟨ko args,h⟩ {tmps:=vs++Array.replicate (fn.ntmps-vs.size) undef,defers:=[]}:=by
      refine⟨s,hf,hg,fun k=>?_,rfl⟩;show ck E w (ko args k) _;unfold ko
      by_cases hk:k<args.length
      ·obtain⟨c,hc⟩:=bD hk;have y6:k<vs.size:=by rw[<-hr.1];exact hk
       obtain⟨u,hu⟩:=dQ y6;rw[hc]
       have:(vs++Array.replicate (fn.ntmps-vs.size) undef).getD k undef=u:=by
        rw[Array.getD_eq_getD_getElem?,Array.getElem?_append_left y6,hu];rfl
       rw[this];exact hr.2 k c u hc hu
      ·rw[List.getElem?_eq_none (by omega)]
       have:(vs++Array.replicate (fn.ntmps-vs.size) undef).getD k undef=undef:=by
        rw[Array.getD_eq_getD_getElem?,Array.getElem?_append_right (by rw[<-hr.1];omega),Array.getElem?_replicate];split<;>rfl
       rw[this];exact mI
     have je:fn.ntmps<=(vs++Array.replicate (fn.ntmps-vs.size) undef).size:=by simp;omega
     refine wp_mono (xn ok.mixed hS hC hL c _ o he (EZ je c (ok.code f fn c hp HC Vv)) E w _ rel rfl) fun e a' w' hq=>?_
     cases e with
     |normal=>
      obtain⟨d8,E',rfl,iS,x',_⟩:=hq;simp only[oZ,ai]at hc;obtain⟨rs,vE,rfl⟩:=hc;obtain⟨u,hu,vM⟩:=oM iS vE
      exact⟨iS.df,u,hu,_,d8.hp,E',rfl,iS.oJ,iS.full,x',vM⟩
     |ret=>
      obtain⟨d8,E',rfl,iS,x',_⟩:=hq;simp only[oZ,ai]at hc;obtain⟨rs,vE,rfl⟩:=hc;obtain⟨u,hu,vM⟩:=oM iS vE
      exact⟨iS.df,u,hu,_,d8.hp,E',rfl,iS.oJ,iS.full,x',vM⟩
     |panic ch=>
      obtain⟨v,h',E',u,rfl,rfl,s',f',x',r',df⟩:=hq;simp only[oZ]at hc;cases hc
      exact⟨df,v,h',E',u,rfl,rfl,s',f',x',r'⟩
     |exit id=>
      obtain⟨d8,E',rfl,_⟩:=hq
      simp[oZ]at hc
     |goto l=>exact hq
     |outgrown=>exact hq.elim
theorem LQ{cf:dS}(ok:uA cf): ∀n,Sound cf (mH cf n).1/\CX cf (mH cf n).2:=by
 intro n
 induction n using Nat.strongRecOn with
 |_ n ih=>
  cases n with
  |zero=>exact⟨fun f args h r hc=>by simp[mH]at hc,fun N c st r hc=>by simp[mH]at hc⟩
  |succ n=>
   obtain⟨h1,h2⟩:=ih n (Nat.lt_succ_self n);refine⟨E5 ok h1 h2,?_⟩;intro N c st r hc dt E w a rel hN;refine E4 (fun m a' w'=>m<=n+1/\ ∃d8 E',(mH cf m).2 c d8=some r/\kZ cf E' w' d8 a'/\Ext E st.hp w E' d8.hp w'/\a'.tmps.size=N) (fun m a' w' hJ=>?_) (n+1) a w ⟨aB _,st,E,hc,rel,Ext.refl _ _ _,hN⟩;obtain⟨hm,d8,E',hl,iS,x',yf⟩:=hJ
   cases m with
   |zero=>simp[mH]at hl
   |succ m=>
    obtain⟨g1,g2⟩:=ih m (by omega);have Ni:gG cf (mH cf m).1 (mH cf m).2 c d8=some r:=hl;unfold gG at Ni
    cases he:bW cf (mH cf m).1 (mH cf m).2 c d8 with
    |none=>simp[he]at Ni
    |some o=>
     rw[he]at Ni;refine wp_mono (xn ok.mixed g1 (fun f args h r hc E w vs hb s hf hg hr=>ru g1 hc hb s hf hg hr) g2 c d8 o he dt E' w' a' iS yf) fun e a2 w2 hq=>?_
     cases e with
     |normal=>
      obtain⟨Wu,E2,rfl,CY,x2,T6⟩:=hq
      exact⟨m,Nat.lt_succ_self m,by omega,Wu,E2,Ni,CY,x'.trans x2,T6⟩
     |exit id=>obtain⟨Wu,E2,rfl,CY,x2,T6⟩:=hq;cases Ni;exact⟨Wu,E2,rfl,CY,x'.trans x2,T6⟩
     |ret=>obtain⟨Wu,E2,rfl,CY,x2,T6⟩:=hq;cases Ni;exact⟨Wu,E2,rfl,CY,x'.trans x2,T6⟩
     |panic ch=>obtain⟨v,h',E2,u,rfl,g3,g4,g5,g6,g7,g8⟩:=hq;cases Ni;exact⟨v,h',E2,u,rfl,g3,g4,g5,x'.trans g6,g7,g8⟩
     |goto l=>exact hq
     |outgrown=>exact hq
theorem tj{cf:dS}(ok:uA cf):Sound cf (call cf):=by
 intro f args h r hc E w vs hb s hf hg hr;obtain⟨n,hn⟩:=fh hc;exact(LQ ok n).1 f args h r hn E w vs hb s hf hg hr
theorem uB{cf:dS}(ok:uA cf):ia cf (call cf):=fun f args h r hc E w vs hb s hf hg hr=>ru (tj ok) hc hb s hf hg hr
end Go.Am
set_option maxHeartbeats 4000000
namespace Go.Am
open Go
def ib(P:Program)(e:TypeId)(ys:List af):af:=
 match P.underlying e with
 |some (.struct _)=>.agg ys
 |some (.array _ _)=>.agg ys
 |_=>match ys with
  | [y]=>y
  |_=>.agg ys
def tp(P:Program):Nat->TypeId->List af->Prop
 |0,_,_=>False
 |n+1,t,xs=>match P.underlying t with
  |some .bool=>∃b,xs=[.bool b]
  |some (.int k)=>∃i,xs=[.int k i]/\(Lit.int k i).wf=true
  |some .string=>∃s:ByteArray,xs=[.str s]/\s.size<=maxLen
  |some (.slice e)=>∃xq:List (List af),xs=[.sl (xq.map (ib P e))]/\xq.length<=maxLen/\ ∀ys∈xq,tp P n e ys
  |some (.struct fs)=>xs.length=P.cellsOf t/\ ∀f∈fs.toList,tp P n f.type ((xs.drop f.offset).take (P.cellsOf f.type))
  |_=>False
def tiled(P:Program):List Field->Nat->Nat->Bool
 | [],off,n=>decide (off=n)
 |f::fs,off,n=>decide (f.offset=off)&&tiled P fs (off+P.cellsOf f.type) n
def Iz(P:Program)(ts:List TypeId):Bool:=
 ts.all fun t=>match P.underlying t with
  |some .bool=>decide (P.cellsOf t=1)
  |some (.int _)=>decide (P.cellsOf t=1)
  |some .string=>decide (P.cellsOf t=1)
  |some (.slice e)=>decide (P.cellsOf t=1)&&(decide (0<P.cellsOf e)&&ts.contains e)
  |some (.struct fs)=>tiled P fs.toList 0 (P.cellsOf t)&&fs.toList.all fun f=>ts.contains f.type
  |_=>false
def m5(w:World)(xs:List af)(cs:List Value):Prop:=xs.length=cs.length/\ ∀(i:Nat)(x:af)(v:Value),xs[i]?=some x->cs[i]?=some v->eA (fun b=>b<w.heap.size) w x v
theorem m5.one{w:World}{x:af}{v:Value}(h:eA (fun b=>b<w.heap.size) w x v):m5 w [x] [v]:=⟨rfl,fun i y u hy hu=>by
 cases i with
 |zero=>simp at hy hu;subst hy hu;exact h
 |succ i=>simp at hy⟩
theorem m5.append{w:World}{xs ys:List af}{cs ds:List Value}(h:m5 w xs cs)(h':m5 w ys ds):m5 w (xs++ys) (cs++ds):=by
 refine⟨by simp[h.1,h'.1],fun i x v hx hv=>?_⟩
 by_cases hi:i<xs.length
 ·rw[bp hi]at hx;rw[bp (by rw[<-h.1];exact hi)]at hv;exact h.2 i x v hx hv
 ·rw[List.getElem?_append_right (by omega)]at hx;rw[List.getElem?_append_right (by rw[<-h.1];omega),<-h.1]at hv;exact h'.2 _ x v hx hv
theorem tp.mono{P:Program}: ∀{n m:Nat},n<=m-> ∀{t:TypeId}{xs:List af},tp P n t xs->tp P m t xs:=by
 intro n
 induction n with
 |zero=>intro m _ t xs h;exact h.elim
 |succ n ih=>
  intro m hm t xs h
  cases m with
  |zero=>omega
  |succ m=>
   unfold tp at h⊢;split at h
   ·rename_i hu;first|exact h|(simp only[hu];exact h)
   ·rename_i k hu;first|exact h|(simp only[hu];exact h)
   ·rename_i hu;first|exact h|(simp only[hu];exact h)
   ·rename_i e hu
    try simp only[hu]
    obtain⟨xq,h1,h2,h3⟩:=h;exact⟨xq,h1,h2,fun ys hy=>ih (by omega) (h3 ys hy)⟩
   ·rename_i fs hu
    try simp only[hu]
    exact⟨h.1,fun f hf=>ih (by omega) (h.2 f hf)⟩
   ·exact h.elim
theorem sW{P:Program}{n:Nat}{e:TypeId}{ys:List af}(h:tp P n e ys):(ib P e ys).cells=ys:=by
 cases n with
 |zero=>exact h.elim
 |succ n=>
  unfold tp at h;unfold ib;split at h
  ·rename_i hu;try simp only[hu];obtain⟨b,rfl⟩:=h;rfl
  ·rename_i k hu;try simp only[hu];obtain⟨i,rfl,_⟩:=h;rfl
  ·rename_i hu;try simp only[hu];obtain⟨s,rfl,_⟩:=h;rfl
  ·rename_i e' hu;try simp only[hu];obtain⟨xq,rfl,_⟩:=h;rfl
  ·rename_i fs hu;try simp only[hu];rfl
  ·exact h.elim
theorem BT{P:Program}: ∀(fs:List Field)(off n:Nat),tiled P fs off n=true->off<=n/\ ∀f∈fs,off<=f.offset/\f.offset+P.cellsOf f.type<=n:=by
 intro fs
 induction fs with
 |nil=>intro off n h;simp[tiled]at h;exact⟨by omega,fun f hf=>by cases hf⟩
 |cons f fs ih=>
  intro off n h;simp only[tiled,aj,decide_eq_true_eq]at h;obtain⟨h1,h2⟩:=ih _ _ h.2;refine⟨by omega,fun g hg=>?_⟩;rcases aW.1 hg with rfl|hg
  ·exact⟨by omega,by omega⟩
  ·obtain⟨h3,h4⟩:=h2 g hg;exact⟨by omega,h4⟩
theorem Ot{P:Program}{w:World}{m n:Nat}{cs:List Value}(rq:cs.length=n): ∀(fs:List Field)(off:Nat),tiled P fs off n=true->(∀f∈fs,∃ys,m5 w ys ((cs.drop f.offset).take (P.cellsOf f.type))/\tp P m f.type ys)->
  ∃xs,m5 w xs (cs.drop off)/\ ∀f∈fs,tp P m f.type ((xs.drop (f.offset-off)).take (P.cellsOf f.type)):=by
   intro fs
   induction fs with
   |nil=>
    intro off h _;simp[tiled]at h
    exact⟨[],⟨by simp;omega,fun i x v hx=>by simp at hx⟩,fun f hf=>by cases hf⟩
   |cons f fs ih=>
    intro off h hk;have hs:=BT _ _ _ h;simp only[tiled,aj,decide_eq_true_eq]at h;obtain⟨ho,ht⟩:=h;obtain⟨ys,Wv,Ww⟩:=hk f (by simp);obtain⟨xs,Bc,xm⟩:=ih _ ht fun g hg=>hk g (by simp[hg]);have hle:=(hs.2 f (by simp)).2;have hyl:ys.length=P.cellsOf f.type:=by rw[Wv.1];simp;omega
    refine⟨ys++xs,?_,fun g hg=>?_⟩
    ·have:cs.drop off=(cs.drop f.offset).take (P.cellsOf f.type)++cs.drop (off+P.cellsOf f.type):=by
      rw[ho,<-List.drop_drop,List.take_append_drop]
     rw[this];exact Wv.append Bc
    ·rcases aW.1 hg with rfl|hg
     ·rw[show g.offset-off=0 by omega,List.drop_zero,List.take_append_of_le_length (by omega),List.take_of_length_le (by omega)];exact Ww
     ·have cx:=((BT _ _ _ ht).2 g hg).1;rw[List.drop_append,List.drop_eq_nil_of_le (by omega),List.nil_append,hyl,show g.offset-off-P.cellsOf f.type=g.offset-(off+P.cellsOf f.type) by omega];exact xm g hg
theorem Ou{H:Type}{enc:TypeId×Value->H}{P:Program}{w:World}{base:Nat}{ts:List TypeId}(hp:Iz P ts=true):
  ∀(n:Nat)(t:TypeId)(cs:List Value)(z:DataW H×List MemPlace),t∈ts->DataW.trod enc P w base (fun _=>true) true n t cs=some z->cs.length=P.cellsOf t/\ ∃xs,m5 w xs cs/\tp P n t xs:=by
   intro n
   induction n with
   |zero=>intro t cs z _ h;simp[DataW.trod]at h
   |succ n ih=>
    intro t cs z ht h;have IA:=aG.1 hp t ht
    cases hu:P.underlying t with
    |none=>simp only[hu]at IA;cases IA
    |some d=>
     simp only[hu]at IA;cases d<;>simp only at IA<;>(try(cases IA;done))
     case bool=>
      simp only[decide_eq_true_eq]at IA;obtain⟨b,rfl,_⟩:=DataW.trod_bool hu h;exact⟨by simp[IA],[.bool b],.one (.bool b),by unfold tp;simp only[hu];exact⟨b,rfl⟩⟩
     case int k=>
      simp only[decide_eq_true_eq]at IA;obtain⟨i,rfl,_,hwf⟩:=DataW.trod_int hu h;exact⟨by simp[IA],[.int k i],.one (.int k i),by unfold tp;simp only[hu];exact⟨i,rfl,hwf⟩⟩
     case string=>
      simp only[decide_eq_true_eq]at IA;obtain⟨s,rfl,_,hs⟩:=DataW.trod_string hu h;exact⟨by simp[IA],[.str s],.one (.str s),by unfold tp;simp only[hu];exact⟨s,rfl,hs⟩⟩
     case slice e=>
      simp only[aj,decide_eq_true_eq,List.contains_iff_mem]at IA;obtain⟨h1,ug,kx⟩:=IA;rcases DataW.trod_slice hu h with⟨rfl,_⟩|⟨a,len,cap,elems,rest,m,hm,rfl,hz,hb,hlc,fI,ji,Y4,_,_⟩
      ·refine⟨by simp[h1],[.sl []],.one (.sl [] none 0 0 0 0 (fun _ _=>undef) (fun h=>absurd rfl h) (aB _) (fun x hx=>by simp at hx) (fun i j x c hx=>by simp at hx) (fun i j x c hx=>by simp at hx)),?_⟩;unfold tp;simp only[hu];exact⟨[],rfl,Nat.zero_le _,fun ys hy=>by cases hy⟩
      ·have gU:m=n:=by omega
       subst gU
       have key: ∀i,i<len-> ∃(cs:List Value)(ys:List af),w.cells? base (a.add (i*P.cellsOf e)) (P.cellsOf e)=some cs/\m5 w ys cs/\tp P m e ys:=by
        intro i hi;obtain⟨z',Y5⟩:=bD (l:=elems) (i:=i) (by omega);have:=Y4 i hi;rw[Y5,Option.bind_eq_some_iff]at this;obtain⟨cs,rq,ht'⟩:=this;obtain⟨_,ys,YA,Rg⟩:=ih e cs z' kx ht';exact⟨cs,ys,rq,YA,Rg⟩
       -- the elements,chosen
       have T7: ∃F:Nat->List af,∀i,i<len-> ∃cs,w.cells? base (a.add (i*P.cellsOf e)) (P.cellsOf e)=some cs/\m5 w (F i) cs/\tp P m e (F i):=by
        refine⟨fun i=>if hi:i<len then(key i hi).choose_spec.choose else [],fun i hi=>?_⟩;simp only[dif_pos hi];obtain⟨g1,g2,g3⟩:=(key i hi).choose_spec.choose_spec;exact⟨_,g1,g2,g3⟩
       obtain⟨F,hF⟩:=T7
       let xq:=(List.range len).map F
       have qQ: ∀(i:Nat)(x:af),(xq.map (ib P e))[i]?=some x->i<len/\x=ib P e (F i):=by
        intro i x hx;have hi:i<len:=by have:=(az.1 hx).1;simpa[xq]using this
        simp[xq,hi]at hx;exact⟨hi,hx.symm⟩
       have hlen: ∀i,i<len->(F i).length=P.cellsOf e:=by
        intro i hi;obtain⟨cs,g1,g2,g3⟩:=hF i hi;rw[g2.1];exact(World.cells?_some g1).2.1
       have SS:0<len->a=⟨a.block,a.off,none⟩:=by
        intro h0;obtain⟨cs,g1,g2,g3⟩:=hF 0 h0;obtain⟨_,g5,g6⟩:=World.cells?_some g1;have:=g6 0 ug
        have hc:(w.cell? a).isSome=true:=by
         have e1:((a.add (0*P.cellsOf e)).add 0)=a:=by simp[Addr.add]
         rw[e1]at this;rw[this];simp[g5,ug]
        unfold World.cell? at hc;obtain⟨b,o,sp⟩:=a
        cases sp with
        |none=>rfl
        |some sp=>
         exfalso;simp at hc;split at hc<;>simp at hc
       have rm: ∀i j x c,(xq.map (ib P e))[i]?=some x->x.cells[j]?=some c-> ∃v,w.cell? ⟨a.block,a.off+(i*P.cellsOf e+j),none⟩=some v/\eA (fun b=>b<w.heap.size) w c v:=by
        intro i j x c hx hj;obtain⟨hi,rfl⟩:=qQ i x hx;obtain⟨cs,g1,g2,g3⟩:=hF i hi;rw[sW g3]at hj;obtain⟨_,g5,g6⟩:=World.cells?_some g1;have bq:j<cs.length:=by rw[<-g2.1];exact(az.1 hj).1
        obtain⟨v,hv⟩:=bD bq;refine⟨v,?_,g2.2 j c v hj hv⟩;have:=g6 j (by omega);rw[SS (by omega),Addr.add_mid,Addr.add_mid,hv]at this;rw[<-this,Nat.add_assoc]
       refine⟨by simp[h1],[.sl (xq.map (ib P e))],.one ?_,?_⟩
       ·have hll:(xq.map (ib P e)).length=len:=by simp[xq]
        have:=eA.sl (S:=fun b=>b<w.heap.size) (w:=w) (xq.map (ib P e)) (some a) cap (P.cellsOf e) a.block a.off (fun i j=>(w.cell? ⟨a.block,a.off+(i*P.cellsOf e+j),none⟩).getD undef) (fun kY=>?_) (by omega) (fun x hx=>?_) (fun i j x c hx hj=>?_) (fun i j x c hx hj=>?_)
        ·rw[hll]at this;exact this
        ·have h0:0<len:=by rw[<-hll];exact List.length_pos_iff.2 kY
         exact congrArg some (SS h0)
        ·obtain⟨i,hi⟩:=List.mem_iff_getElem?.1 hx;obtain⟨mg,rfl⟩:=qQ i x hi;obtain⟨cs,g1,g2,g3⟩:=hF i mg;rw[sW g3];exact hlen i mg
        ·obtain⟨v,hv,_⟩:=rm i j x c hx hj;refine⟨?_,by rw[hv];rfl⟩;unfold World.cell? at hv
         cases hq:w.heap[a.block]? with
         |none=>simp[hq]at hv
         |some o=>exact(Array.getElem?_eq_some_iff.1 hq).1
        ·obtain⟨v,hv,hr⟩:=rm i j x c hx hj;simp only[hv,Option.getD_some];exact hr
       ·unfold tp;simp only[hu];refine⟨xq,rfl,by simp[xq];omega,fun ys hy=>?_⟩;obtain⟨i,hi,rfl⟩:=bj.1 hy;obtain⟨cs,g1,g2,g3⟩:=hF i (by simpa using hi);exact g3
     case struct fs=>
      simp only[aj]at IA;obtain⟨Wx,kx⟩:=IA;obtain⟨zs,m,hm,_,iO,Bd,hfs⟩:=DataW.trod_struct hu h;have gU:m=n:=by omega
      subst gU
      have key: ∀f∈fs.toList,∃ys,m5 w ys ((cs.drop f.offset).take (P.cellsOf f.type))/\tp P m f.type ys:=by
       intro f hf;obtain⟨i,hi⟩:=List.mem_iff_getElem?.1 hf;have o7:fs[i]?=some f:=by simpa using hi
       have hz:=hfs i f o7;have eH:i<zs.length:=by rw[Bd];exact(Array.getElem?_eq_some_iff.1 o7).1
       obtain⟨z',Y5⟩:=bD eH;rw[Y5]at hz
       have Y6:f.type∈ts:=by
        have:=aG.1 kx f hf;simpa using this
       obtain⟨_,ys,h1,h2⟩:=ih f.type _ z' Y6 hz;exact⟨ys,h1,h2⟩
      obtain⟨xs,Bc,xm⟩:=Ot iO fs.toList 0 Wx key;rw[List.drop_zero]at Bc;refine⟨iO,xs,Bc,?_⟩;unfold tp;simp only[hu];exact⟨by rw[Bc.1];exact iO,fun f hf=>by have:=xm f hf;simpa using this⟩
end Go.Am

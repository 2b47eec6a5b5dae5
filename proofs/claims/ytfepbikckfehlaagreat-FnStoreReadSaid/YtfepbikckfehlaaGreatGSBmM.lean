/- Frozen values; calls by mode. -/
import Derived.Test.YtfepbikckfehlaaGreatGH5
set_option linter.unusedVariables false
set_option linter.unusedSimpArgs false
set_option maxHeartbeats 4000000
namespace Go.Am
open Go
section
variable{P:Program}{E:Env}{w:World}{h:aC}
theorem ck.Kr{fn:Fn}{a b:List af}{v:Value}(h:ck E w (.func fn a b) v): ∃va vb,v= .func fn va vb/\a.length=va.size/\b.length=vb.size/\
  (∀(i:Nat)(c:af)(v:Value),a[i]?=some c->va[i]?=some v->ck E w c v)/\ ∀(i:Nat)(c:af)(v:Value),b[i]?=some c->vb[i]?=some v->ck E w c v:=by
   cases h with
   |eG h=>cases h with|func _ _ _ va vb Ls El NM NN=>exact⟨va,vb,rfl,Ls,El,fun i c v h1 h2=>.eG (NM i c v h1 h2),fun i c v h1 h2=>.eG (NN i c v h1 h2)⟩
   |func _ _ _ va vb Ls El NM NN=>exact⟨va,vb,rfl,Ls,El,NM,NN⟩
theorem zf(h:aC): ∀(n:Nat)(x x':af),bS h n x=some x'->x'.cells.length=x.cells.length/\ ∀(j:Nat)(c:af),x.cells[j]?=some c-> ∃c',x'.cells[j]?=some c'/\bS h n c=some c':=by
 intro n x x' hx
 have one:x.cells=[x]->x'.cells=[x']->x'.cells.length=x.cells.length/\ ∀(j:Nat)(c:af),x.cells[j]?=some c-> ∃c',x'.cells[j]?=some c'/\bS h n c=some c':=by
  intro e1 e2;rw[e1,e2];refine⟨rfl,fun j c hj=>?_⟩
  cases j with
  |zero=>simp at hj;subst hj;exact⟨x',rfl,hx⟩
  |succ j=>simp at hj
 cases n with
 |zero=>simp[bS]at hx
 |succ n=>
  cases x<;>simp only[bS]at hx
  case agg cs=>
   simp only[ai]at hx;obtain⟨l,hl,rfl⟩:=hx;obtain⟨h1,h2⟩:=gH hl;refine⟨h1.symm,fun j c hj=>?_⟩;obtain⟨c',tf⟩:=bD (l:=l) (i:=j) (by rw[<-h1];exact(az.1 hj).1);exact⟨c',tf,HL h n _ _ (h2 j c c' hj tf)⟩
  case dX cs=>simp only[ai]at hx;obtain⟨l,hl,rfl⟩:=hx;exact one rfl rfl
  case func fn a b=>
   split at hx
   ·cases hx;exact one rfl rfl
   ·cases hx
  case iface t v=>simp only[ai]at hx;obtain⟨l,hl,rfl⟩:=hx;exact one rfl rfl
  case own id st len=>
   split at hx
   ·split at hx
    ·simp only[ai]at hx;obtain⟨l,hl,rfl⟩:=hx;exact one rfl rfl
    ·cases hx
   ·cases hx
  case map id=>
   split at hx
   ·split at hx
    ·cases hx;exact one rfl rfl
    ·cases hx
   ·cases hx
  case ptr id i off=>
   split at hx
   ·split at hx
    ·simp only[ai]at hx;obtain⟨l,hl,rfl⟩:=hx;exact one rfl rfl
    ·cases hx
   ·simp only[ai]at hx;obtain⟨l,hl,rfl⟩:=hx;exact one rfl rfl
   ·cases hx
  all_goals first|(cases hx;exact one rfl rfl)|cases hx
theorem jE(s:dL E h w){S':Nat->Prop}(hS: ∀b,E.S b->S' b)(QZ: ∀id o sl b,h[id]?=some o->E.m id=some sl->sl.BC=some b->S' b):
  ∀(n:Nat)(a a':af)(v:Value),bS h n a=some a'->ck E w a v->eA S' w a' v:=by
   have V4: ∀id o b iC sz,h[id]?=some o->E.m id=some (.live b iC sz)->S' b:=fun id o b iC sz h1 h2=>QZ id o _ b h1 h2 rfl;have YE: ∀id o b,h[id]?=some o->E.m id=some (.HM b)->S' b:=fun id o b h1 h2=>QZ id o _ b h1 h2 rfl;intro n
   induction n with
   |zero=>intro a a' v hh;simp[bS]at hh
   |succ n ih=>
    intro a a' v hh hr
    have same:(∃hc:eA E.S w a v,True)->a'=a->eA S' w a' v:=by
     rintro ⟨hc,_⟩ rfl
     exact hc.mono hS fun _ _=>rfl
    have row: ∀(b o sz:Nat)(es xs:List af),S' b->cp (bS h n) es=some xs->(∀x∈es,x.cells.length=sz)->(∀(i:Nat)(x:af),es[i]?=some x->iP E w b (o+i*sz) x)->
      xs.length=es.length/\(∀x∈xs,x.cells.length=sz)/\ ∃vs:Nat->Nat->Value,(∀(i j:Nat)(x c:af),xs[i]?=some x->x.cells[j]?=some c->S' b/\w.cell? ⟨b,o+(i*sz+j),none⟩=some (vs i j))/\
       ∀(i j:Nat)(x c:af),xs[i]?=some x->x.cells[j]?=some c->eA S' w c (vs i j):=by
        intro b o sz es xs hb hm hs hc;obtain⟨h1,h2⟩:=gH hm
        have back: ∀(i:Nat)(x':af),xs[i]?=some x'-> ∃x,es[i]?=some x/\bS h n x=some x':=by
         intro i x' uh;obtain⟨x,hx⟩:=bD (l:=es) (i:=i) (by rw[h1];exact(az.1 uh).1);exact⟨x,hx,h2 i x x' hx uh⟩
        have cell: ∀(i j:Nat)(x' c':af),xs[i]?=some x'->x'.cells[j]?=some c'-> ∃v,w.cell? ⟨b,o+(i*sz+j),none⟩=some v/\eA S' w c' v:=by
         intro i j x' c' uh hj;obtain⟨x,hx,YF⟩:=back i x' uh;obtain⟨g1,g2⟩:=zf h n x x' YF;obtain⟨c,hcj⟩:=bD (l:=x.cells) (i:=j) (by rw[<-g1];exact(az.1 hj).1);obtain⟨c2,Ea,qM⟩:=g2 j c hcj;rw[hj]at Ea;cases Ea
         obtain⟨v,hv,Kh⟩:=hc i x hx j c hcj;exact⟨v,by rw[<-Nat.add_assoc];exact hv,ih c c' v qM Kh⟩
        refine⟨h1.symm,fun x' uh=>?_,fun i j=>(w.cell? ⟨b,o+(i*sz+j),none⟩).getD undef,fun i j x' c' uh hj=>?_,fun i j x' c' uh hj=>?_⟩
        ·obtain⟨i,hi⟩:=List.mem_iff_getElem?.1 uh;obtain⟨x,hx,YF⟩:=back i x' hi;rw[(zf h n x x' YF).1];exact hs x (aV hx)
        ·obtain⟨v,hv,_⟩:=cell i j x' c' uh hj;exact⟨hb,by simp only[hv,Option.getD_some]⟩
        ·obtain⟨v,hv,Kh⟩:=cell i j x' c' uh hj;simp only[hv,Option.getD_some];exact Kh
    cases a<;>simp only[bS]at hh
    case int=>cases hh;cases hr with|eG hc=>exact same ⟨hc,trivial⟩ rfl
    case bool=>cases hh;cases hr with|eG hc=>exact same ⟨hc,trivial⟩ rfl
    case str=>cases hh;cases hr with|eG hc=>exact same ⟨hc,trivial⟩ rfl
    case sl=>cases hh;cases hr with|eG hc=>exact same ⟨hc,trivial⟩ rfl
    case eY=>cases hh;cases hr with|eG hc=>exact same ⟨hc,trivial⟩ rfl
    case qZ=>cases hh;cases hr with|eG hc=>exact same ⟨hc,trivial⟩ rfl
    case pN=>cases hh;cases hr with|eG hc=>exact same ⟨hc,trivial⟩ rfl
    case x9=>cases hh;cases hr with|eG hc=>exact same ⟨hc,trivial⟩ rfl
    case gv=>cases hh;cases hr with|eG hc=>exact same ⟨hc,trivial⟩ rfl
    case pO=>cases hh;cases hr with|eG hc=>exact same ⟨hc,trivial⟩ rfl
    case mQ=>cases hh;cases hr with|eG hc=>exact same ⟨hc,trivial⟩ rfl
    case map id=>
     split at hh
     ·rename_i ks vs ho;split at hh
      ·rename_i pc eo h1 h2;cases hh
       obtain⟨b,rfl,A6⟩:=hr.map';rcases A6 with A6|A6
       ·have hk:=s.obj id _ _ ho A6;simp only[dR]at hk;obtain⟨es,clock,hb,l1,l2,r1,r2⟩:=hk;obtain⟨g1,g2⟩:=gH h1;obtain⟨k1,k2⟩:=gH h2;refine .mQ pc eo b clock es (YE id _ b ho A6) hb (by omega) (by omega) (fun i k e hk he=>?_) (fun i v e hv he=>?_)
        ·obtain⟨c0,um⟩:=bD (l:=ks) (i:=i) (by rw[g1];exact(az.1 hk).1);exact ih c0 k _ (g2 i c0 k um hk) (r1 i c0 e um he)
        ·obtain⟨c0,um⟩:=bD (l:=vs) (i:=i) (by rw[k1];exact(az.1 hv).1);exact ih c0 v _ (k2 i c0 v um hv) (r2 i c0 e um he)
       ·have:=s.obj id _ _ ho A6;simp[dR]at this
      ·cases hh
     ·cases hh
    case it=>cases hh
    case nil=>
     cases hh
     cases hr with
     |eG hc=>
      cases hc with
      |nil ad=>exact .sl [] ad 0 0 0 0 (fun _ _=>undef) (fun h=>absurd rfl h) (aB _) (fun x hx=>by simp at hx) (fun i j x c hx=>by simp at hx) (fun i j x c hx=>by simp at hx)
    case agg cs=>
     simp only[ai]at hh;obtain⟨l,hl,rfl⟩:=hh;obtain⟨vs,rfl,h1,h2⟩:=hr.cX;obtain⟨g1,g2⟩:=gH hl;refine .agg l vs (by omega) fun i c v hc hv=>?_;obtain⟨c0,um⟩:=bD (l:=cs) (i:=i) (by rw[g1];exact(az.1 hc).1);exact ih c0 c v (g2 i c0 c um hc) (h2 i c0 v um hv)
    case dX cs=>
     simp only[ai]at hh;obtain⟨l,hl,rfl⟩:=hh;obtain⟨vs,rfl,h1,h2⟩:=hr.QP;obtain⟨g1,g2⟩:=gH hl;refine .dX l vs (by omega) fun i c v hc hv=>?_;obtain⟨c0,um⟩:=bD (l:=cs) (i:=i) (by rw[g1];exact(az.1 hc).1);exact ih c0 c v (g2 i c0 c um hc) (h2 i c0 v um hv)
    case func fn xs ys=>
     split at hh
     ·rename_i as bs ha hb;cases hh
      obtain⟨va,vb,rfl,l1,l2,r1,r2⟩:=hr.Kr;obtain⟨g1,g2⟩:=gH ha;obtain⟨k1,k2⟩:=gH hb;refine .func fn as bs va vb (by omega) (by omega) (fun i c v hc hv=>?_) (fun i c v hc hv=>?_)
      ·obtain⟨c0,um⟩:=bD (l:=xs) (i:=i) (by rw[g1];exact(az.1 hc).1);exact ih c0 c v (g2 i c0 c um hc) (r1 i c0 v um hv)
      ·obtain⟨c0,um⟩:=bD (l:=ys) (i:=i) (by rw[k1];exact(az.1 hc).1);exact ih c0 c v (k2 i c0 c um hc) (r2 i c0 v um hv)
     ·cases hh
    case iface t x=>
     simp only[ai]at hh;obtain⟨x',uh,rfl⟩:=hh;obtain⟨u,rfl,hu⟩:=hr.yY;exact .iface t x' u (ih _ _ _ uh hu)
    case own id st len=>
     split at hh
     ·rename_i sz es ho;split at hh
      ·rename_i hle;simp only[ai]at hh;obtain⟨xs,yl,rfl⟩:=hh
       cases hr with
       |eG hc=>cases hc
       |ri _ _ _ ad cap hm fI=>
        have:=s.obj id _ _ ho hm
        simp[dR]at this
       |own _ _ _ ad cap b iC Vm hm fI hp=>
        have hk:=s.obj id _ _ ho hm;simp only[dR]at hk;obtain⟨rfl,dT,QV,hs,fJ⟩:=hk
        obtain⟨h1,h2,vs,h3,h4⟩:=row b (st*sz) sz _ xs (V4 _ _ _ _ _ ho hm) yl (fun x hx=>hs x (List.mem_of_mem_drop (List.mem_of_mem_take hx))) (fun i x hx=>by
         have hi:i<len:=by
          have:=(az.1 hx).1;simp at this;omega
         rw[List.getElem?_take,if_pos hi,List.getElem?_drop]at hx;have:=fJ _ x hx;rw[Nat.add_mul]at this;exact this)
        have hlen:xs.length=len:=by rw[h1];simp;omega
        have:=eA.sl (S:=S') (w:=w) xs ad cap sz b (st*sz) vs (fun kY=>?_) (by omega) h2 h3 h4
        ·rw[hlen]at this;exact this
        ·rcases hp with⟨h5,_⟩|⟨h5,_⟩
         ·exact absurd (List.eq_nil_of_length_eq_zero (by omega)) kY
         ·exact h5
      ·cases hh
     ·cases hh
    case ptr id i off=>
     cases ho:h[id]? with
     |none=>simp[ho]at hh
     |some o=>
      cases hr with
      |eG hc=>cases hc
      |vK _ _ _ ad hm=>
       have:=s.obj id _ _ ho hm
       cases o<;>simp only[dR]at this<;>simp[ho]at hh
      |ptr _ _ _ b iC Vm hm=>
       have hk:=s.obj id _ _ ho hm
       cases o with
       |box x=>
        simp only[ho]at hh;simp only[dR]at hk;split at hh
        ·rename_i hi;subst hi;simp only[ai]at hh;obtain⟨x',uh,rfl⟩:=hh
         obtain⟨h1,h2,vs,h3,h4⟩:=row b 0 x.cells.length [x] [x'] (V4 _ _ _ _ _ ho hm) (by simp[cp,uh]) (fun y hy=>by simp at hy;subst hy;rfl) (fun i y hy=>by
          cases i with
          |zero=>simp at hy;subst hy;simpa using hk.2.2
          |succ i=>simp at hy)
         have:=eA.eY (S:=S') (w:=w) [x'] 0 off x.cells.length b 0 vs h2 h3 h4;simpa using this
        ·cases hh
       |arr sz es=>
        simp only[ho,ai]at hh;obtain⟨xs,yl,rfl⟩:=hh;simp only[dR]at hk;obtain⟨rfl,dT,QV,hs,fJ⟩:=hk;obtain⟨h1,h2,vs,h3,h4⟩:=row b 0 sz es xs (V4 _ _ _ _ _ ho hm) yl hs (fun i x hx=>by rw[bg];exact fJ i x hx);have:=eA.eY (S:=S') (w:=w) xs i off sz b 0 vs h2 h3 h4;rw[bg]at this
        exact this
       |oX ks vs=>simp[ho]at hh
       |iter q pos=>simp[ho]at hh
       |dead=>simp[ho]at hh
def fS(E:Env)(w:World)(as:List af)(vs:Array Value):Prop:=as.length=vs.size/\ ∀(i:Nat)(c:af)(v:Value),as[i]?=some c->vs[i]?=some v->ck E w c v
def uo(E:Env)(h:aC)(w:World)(r:dz):Ending->World->Prop
 | .returned u,w'=>∃v h' E',r= .ret v h'/\dL E' h' w'/\Full E' h'/\Ext E h w E' h' w'/\ck E' w' v u
 | .panicked chain,w'=>∃v h' E' u,r= .iK v h'/\chain=[{v:=u,recovered:=false}]/\dL E' h' w'/\Full E' h'/\Ext E h w E' h' w'/\ck E' w' v u
 | .outgrown,_=>False
def Sound(cf:dS)(C:pP):Prop:=∀f args h r,C f args h=some r-> ∀(E:Env)(w:World)(vs:Array Value),fW cf.P f=true->dL E h w->Full E h->sE cf.G E.S w->fS E w args vs->Calls cf.P f vs w (uo E h w r)
theorem sE.mono{G:Nat->Option af}{S S':Nat->Prop}{w w':World}(hg:sE G S w)(hS: ∀b,S b->S' b)(hw: ∀b,S b->w'.heap[b]?=w.heap[b]?):sE G S' w':=fun g v h=>(hg g v h).mono hS hw
theorem sE.ext{G:Nat->Option af}{E':Env}{h':aC}{w':World}(hg:sE G E.S w)(s:dL E h w)(x:Ext E h w E' h' w'):sE G E'.S w':=hg.mono x.S fun b hb=>x.NP s hb
theorem fS.ext{E':Env}{h':aC}{w':World}{as:List af}{vs:Array Value}(hr:fS E w as vs)(s:dL E h w)(x:Ext E h w E' h' w'):fS E' w' as vs:=⟨hr.1,fun i c v h1 h2=>(hr.2 i c v h1 h2).ext x s⟩
def Env.bare(S:Nat->Prop):Env:=⟨fun _=>none,S⟩
theorem Env.fy{S:Nat->Prop}{b:Nat}: ¬(Env.bare S).im b:=by rintro ⟨id,s,h,_⟩;cases h
theorem dL.bare{S:Nat->Prop}(h: ∀b,S b->b<w.heap.size):dL (Env.bare S) [] w:=
 ⟨fun id o s ho=>by simp at ho,fun i j si sj b hi=>by simp[Env.bare]at hi,fun b hb=>absurd hb Env.fy,fun b hb=>absurd hb Env.fy,h⟩
def Env.plus(E:Env)(w:World)(S1:Nat->Prop):Env:=⟨E.m,fun b=>E.S b∨(w.heap.size<=b/\S1 b)⟩
theorem dL.plus{w1:World}{S1:Nat->Prop}(s:dL E h w)(hw: ∀b,b<w.heap.size->w1.heap[b]?=w.heap[b]?)(hs:w.heap.size<=w1.heap.size)(h1: ∀b,S1 b->b<w1.heap.size)(TP:w1.os=w.os)(ht:w1.tape=w.tape)(ho:w1.output=w.output):
  dL (E.plus w S1) h w1/\Ext E h w (E.plus w S1) h w1:=by
   have hx:Ext E h w (E.plus w S1) h w1:=⟨⟨fun b hb=>.inl hb,fun b hb=>hb.elim .inl fun h=>.inr (.inr h.1),fun b hb _=>hw b hb,fun id sl hm=>.inl hm,fun b hb=>.inl hb,aB _,hs,TP,ht,ho⟩,fun _ _ h=>h⟩;refine⟨⟨fun id o sl cq hm=>(s.obj id o sl cq hm).mono (fun a v hr=>hr.ext hx s) fun b hb=>hw b (s.lt b ⟨id,sl,hm,hb⟩),s.inj,fun b hb hS=>?_,fun b hb=>Nat.lt_of_lt_of_le (s.lt b hb) hs,fun b hb=>?_⟩,hx⟩
   ·rcases hS with h|⟨h,_⟩
    ·exact s.nS b hb h
    ·have:=s.lt b hb;omega
   ·rcases hb with h|⟨_,h⟩
    ·exact Nat.lt_of_lt_of_le (s.nQ b h) hs
    ·exact h1 b h
theorem lg(s:dL E h w){S':Nat->Prop}(hS: ∀b,E.S b->S' b)(QZ: ∀id o sl b,h[id]?=some o->E.m id=some sl->sl.BC=some b->S' b){as YG:List af}{vs:Array Value}(hl:cj h as=some YG)(hr:fS E w as vs):
  fS (Env.bare S') w YG vs:=by
   obtain⟨h1,h2⟩:=gH hl;refine⟨by rw[<-h1];exact hr.1,fun i c v hc hv=>?_⟩;obtain⟨c0,um⟩:=bD (l:=as) (i:=i) (by rw[h1];exact(az.1 hc).1);exact .eG (jE s hS QZ _ _ _ _ (h2 i c0 c um hc) (hr.2 i c0 v um hv))
theorem N0{S:Nat->Prop}{w1:World}{E1:Env}{v:af}{u:Value}(hs:v.QK=true)(hr:ck E1 w1 v u):eA S w1 v u:=by
 cases v<;>simp only[af.QK]at hs<;>try(exact hr.closed hs S w1)
 rename_i vs;obtain⟨us,rfl,h1,h2⟩:=hr.QP;exact .dX vs us h1 fun i c v hc hv=>(h2 i c v hc hv).closed (aG.1 hs c (aV hc)) S w1
def V5(E:Env)(h H:aC)(w:World)(r:dz):Ending->World->Prop
 | .returned u,w1=>∃v S1,r= .ret v h/\dL (E.plus w S1) H w1/\Ext E H w (E.plus w S1) H w1/\ck (E.plus w S1) w1 v u
 | .panicked chain,w1=>∃v S1 u,r= .iK v h/\chain=[{v:=u,recovered:=false}]/\dL (E.plus w S1) H w1/\Ext E H w (E.plus w S1) H w1/\ck (E.plus w S1) w1 v u
 | .outgrown,_=>False
theorem xg{cf:dS}{C:pP}{H:aC}(hC:Sound cf C){f:FuncId}(hm:cf.M f= .P){args:List af}{r:dz}{vs:Array Value}(hc:bN cf C f args h=some r)(hb:fW cf.P f=true)(hp:h <+: H)(sH:dL E H w)(hg:sE cf.G E.S w)(hr:fS E w args vs):
  Calls cf.P f vs w (V5 E h H w r):=by
   have s:dL E h w:=sH.sub hp;unfold bN at hc;simp only[hm]at hc;have s0:dL E [] w:=s.sub List.nil_prefix
   cases hs:cj [] args with
   |some as=>
    simp only[hs]at hc;have N1:fS (Env.bare E.S) w as vs:=lg s0 (fun _ h=>h) (fun id o sl b ho=>by simp at ho) hs hr
    cases hq:C f as []with
    |none=>simp[hq]at hc
    |some q=>
     simp only[hq]at hc;refine Calls.mono (hC f as [] q hq (Env.bare E.S) w vs hb (dL.bare s.nQ) (fun _ _=>rfl) hg N1) fun e w1 he=>?_
     have back: ∀(v v':af)(u:Value)(h1:aC)(E1:Env),dL E1 h1 w1->Full E1 h1->Ext (Env.bare E.S) [] w E1 h1 w1->ck E1 w1 v u->snap h1 v=some v'-> ∃S1,dL (E.plus w S1) H w1/\Ext E H w (E.plus w S1) H w1/\ck (E.plus w S1) w1 v' u:=by
      intro v v' u h1 E1 s1 _ x1 r1 mY;have Q0:=jE s1 (S':=fun b=>E1.S b∨E1.im b) (fun _ h=>.inl h) (fun id o sl b _ hm hb=>.inr ⟨id,_,hm,hb⟩) _ _ _ _ mY r1;obtain⟨p1,p2⟩:=sH.plus (w1:=w1) (S1:=fun b=>E1.S b∨E1.im b) (fun b hb=>x1.mem b hb Env.fy) x1.size (fun b hb=>hb.elim (s1.nQ b) (s1.lt b)) x1.os x1.tape x1.output;refine⟨_,p1,p2,.eG (Q0.mono (fun b hb=>?_) fun _ _=>rfl)⟩;rcases hb with h2|h2
      ·rcases x1.SN b h2 with h3|h3|h3
       ·exact .inl h3
       ·exact absurd h3 Env.fy
       ·exact .inr ⟨h3,.inl h2⟩
      ·rcases x1.new b h2 with h3|h3
       ·exact absurd h3 Env.fy
       ·exact .inr ⟨h3,.inr h2⟩
     cases e with
     |returned u=>
      obtain⟨v,h1,E1,rfl,s1,f1,x1,r1⟩:=he;simp only[ai]at hc;obtain⟨v',o6,rfl⟩:=hc;obtain⟨S1,g1,g3,g4⟩:=back v v' u h1 E1 s1 f1 x1 r1 o6
      exact⟨v',S1,rfl,g1,g3,g4⟩
     |panicked chain=>
      obtain⟨v,h1,E1,u,rfl,rfl,s1,f1,x1,r1⟩:=he;simp only[ai]at hc;obtain⟨v',o6,rfl⟩:=hc;obtain⟨S1,g1,g3,g4⟩:=back v v' u h1 E1 s1 f1 x1 r1 o6
      exact⟨v',S1,u,rfl,rfl,g1,g3,g4⟩
     |outgrown=>exact he.elim
   |none=>
    simp only[hs]at hc
    cases oH:cj h args with
    |none=>simp[oH]at hc
    |some as=>
     simp only[oH]at hc;have N1:fS (Env.bare fun b=>E.S b∨E.im b) w as vs:=lg s (fun _ h=>.inl h) (fun id o sl b _ hm hb=>.inr ⟨id,_,hm,hb⟩) oH hr
     cases hq:C f as []with
     |none=>simp[hq]at hc
     |some q=>
      cases q with
      |iK v h1=>simp[hq]at hc
      |ret v h1=>
       simp only[hq]at hc;split at hc
       ·rename_i qM;cases hc
        refine Calls.mono (hC f as [] _ hq (Env.bare fun b=>E.S b∨E.im b) w vs hb (dL.bare fun b hb=>hb.elim (s.nQ b) (s.lt b)) (fun _ _=>rfl) (hg.mono (fun _ h=>.inl h) fun _ _=>rfl) N1) fun e w1 he=>?_
        cases e with
        |returned u=>
         obtain⟨v2,h2,E1,Ba,s1,f1,x1,r1⟩:=he;cases Ba
         obtain⟨p1,p2⟩:=sH.plus (w1:=w1) (S1:=fun _=>False) (fun b hb=>x1.mem b hb Env.fy) x1.size (fun b hb=>hb.elim) x1.os x1.tape x1.output
         exact⟨v,_,rfl,p1,p2,.eG (N0 qM r1)⟩
        |panicked chain=>
         obtain⟨v2,h2,E1,u,Ba,_⟩:=he
         cases Ba
        |outgrown=>exact he.elim
       ·cases hc
theorem uq{E1 E':Env}{w1:World}{n:Nat}(hm: ∀id s,E1.m id=some s->E'.m (id+n)=some s∨E'.m (id+n)=some .dead){c:af}{v:Value}(hc:c.f8=true)(hr:ck E1 w1 c v):ck E' w1 (l6 n c) v:=by
 cases c<;>simp only[af.f8]at hc<;>first
  |(exact .eG (hr.closed hc _ _))
  |(cases hc;done)
  |skip
 case own id st len=>
  cases hr with
  |eG h=>cases h
  |own _ _ _ a cap b iC sz gU fI hq=>
   rcases hm _ _ gU with h|h
   ·exact .own (id+n) st len a cap b iC sz h fI hq
   ·exact .ri (id+n) st len a cap h fI
  |ri _ _ _ a cap gU fI=>
   rcases hm _ _ gU with h|h<;>exact .ri (id+n) st len a cap h fI
 case nil=>
  cases hr with
  |eG h=>cases h with|nil a=>exact .eG (.nil a)
 case sl xs=>
  cases xs with
  |cons y ys=>cases hc
  |nil=>
   cases hr with
   |eG h=>
    cases h with
    |sl _ a cap s b o vs h1 h2 h3 h4 h5=>exact .eG (.sl [] a cap s b o vs h1 h2 (by simp) (by simp) (by simp))
theorem ur{E1 E':Env}{w1:World}{n:Nat}(hm: ∀id s,E1.m id=some s->E'.m (id+n)=some s∨E'.m (id+n)=some .dead){c:af}{v:Value}(hc:(match c with| .agg ds=>ds.all af.f8|c=>c.f8)=true)(hr:ck E1 w1 c v):ck E' w1 (hZ n c) v:=by
 cases c
 case agg cs=>
  obtain⟨vs,rfl,h1,h2⟩:=hr.cX;simp only at hc;refine .agg _ vs (by simpa using h1) fun i c v hi hv=>?_;rw[List.getElem?_map,ai]at hi;obtain⟨c0,um,rfl⟩:=hi;exact uq hm (aG.1 hc c0 (aV um)) (h2 i c0 v um hv)
 all_goals exact uq hm hc hr
theorem LG{c:af}(h:c.clean=true)(h1: ∀cs,c≠ .agg cs)(h2: ∀cs,c≠ .dX cs):c.f8=true:=by
 cases c<;>first|exact h|exact absurd rfl (h1 _)|exact absurd rfl (h2 _)
theorem Ie(n:Nat){c:af}(h1: ∀cs,c≠ .agg cs)(h2: ∀cs,c≠ .dX cs):pQ n c=l6 n c:=by
 cases c<;>first|rfl|exact absurd rfl (h1 _)|exact absurd rfl (h2 _)
theorem LH{E1 E':Env}{w1:World}{n:Nat}(hm: ∀id s,E1.m id=some s->E'.m (id+n)=some s∨E'.m (id+n)=some .dead){c:af}{v:Value}(hc:c.clean=true)(hr:ck E1 w1 c v):ck E' w1 (pQ n c) v:=by
 by_cases h1: ∃cs,c= .agg cs
 ·obtain⟨cs,rfl⟩:=h1;exact ur (c:=.agg cs) hm hc hr
 by_cases h2: ∃cs,c= .dX cs
 ·obtain⟨cs,rfl⟩:=h2;obtain⟨vs,rfl,h1,h2⟩:=hr.QP;simp only[af.clean]at hc;refine .dX _ vs (by simpa using h1) fun i c v hi hv=>?_;rw[List.getElem?_map,ai]at hi;obtain⟨c0,um,rfl⟩:=hi;exact ur hm (aG.1 hc c0 (aV um)) (h2 i c0 v um hv)
 have g1: ∀cs,c≠ .agg cs:=fun cs e=>h1 ⟨cs,e⟩;have g2: ∀cs,c≠ .dX cs:=fun cs e=>h2 ⟨cs,e⟩;rw[Ie n g1 g2];exact uq hm (LG hc g1 g2) hr
theorem mC{n:Nat}{c:af}(hc:(match c with| .agg ds=>ds.all af.f8|c=>c.f8)=true):(hZ n c).cells=c.cells.map (l6 n):=by
 cases c<;>first|rfl|(simp only[af.f8,af.isScalar]at hc;cases hc)
theorem Ig{c:af}(hc:(match c with| .agg ds=>ds.all af.f8|c=>c.f8)=true){j:Nat}{d:af}(hj:c.cells[j]?=some d):d.f8=true:=by
 cases c
 case agg cs=>exact aG.1 hc d (aV hj)
 all_goals
  cases j with
  |zero=>simp[af.cells]at hj;subst hj;exact hc
  |succ j=>simp[af.cells]at hj
def Env.TV(E E1:Env)(n m:Nat)(h1:aC):Env:=
 ⟨fun k=>if k<n then E.m k else if k<n+m then(match E1.m (k-n)with
  |some s=>match h1[k-n]? with
   |some o=>if o.keeps then some s else some .dead
   |none=>some .dead
  |none=>none)else E.m k,E.S⟩
def V6(E:Env)(h H:aC)(w:World)(r:dz):Ending->World->Prop
 | .returned u,w1=>∃v h' E',r= .ret v h'/\dL E' H w1/\pU E H w E' H w1/\ck E' w1 v u/\ ∀k,E'.m k=E.m k∨(h.length<=k/\k<h'.length)
 |_,_=>False
theorem xh{cf:dS}{C:pP}{H:aC}(hC:Sound cf C){f:FuncId}(hm:cf.M f= .N){args:List af}{v:af}{h':aC}{vs:Array Value}(hc:bN cf C f args h=some (.ret v h'))(hb:fW cf.P f=true)(hp:h' <+: H)(hn: ∀k,h.length<=k->k<h'.length->E.m k=none)
  (sH:dL E H w) (hg:sE cf.G E.S w) (hr:fS E w args vs):h <+: h'/\Calls cf.P f vs w (V6 E h H w (.ret v h')):=by
   unfold bN at hc;simp only[hm]at hc
   cases oH:cj h args with
   |none=>simp[oH]at hc
   |some as=>
   simp only[oH]at hc
   cases hq:C f as []with
   |none=>simp[hq]at hc
   |some q=>
   cases q with
   |iK v h1=>simp[hq]at hc
   |ret v1 h1=>
   simp only[hq]at hc;split at hc
   ·rename_i iO;cases hc
    refine⟨List.prefix_append _ _,?_⟩;have hph:h <+: H:=(List.prefix_append _ _).trans hp;have s:dL E h w:=sH.sub hph;have N1:fS (Env.bare fun b=>E.S b∨E.im b) w as vs:=lg s (fun _ h=>.inl h) (fun id o sl b _ hm hb=>.inr ⟨id,_,hm,hb⟩) oH hr;refine Calls.mono (hC f as [] _ hq (Env.bare fun b=>E.S b∨E.im b) w vs hb (dL.bare fun b hb=>hb.elim (s.nQ b) (s.lt b)) (fun _ _=>rfl) (hg.mono (fun _ h=>.inl h) fun _ _=>rfl) N1) fun e w1 he=>?_
    cases e with
    |panicked chain=>obtain⟨v2,h2,E1,u,Ba,_⟩:=he;cases Ba
    |outgrown=>exact he.elim
    |returned u=>
     obtain⟨v2,h2,E1,Ba,s1,f1,x1,r1⟩:=he;cases Ba
     have hlen:(h++h1.map (cJ.keep h.length)).length=h.length+h1.length:=by simp
     rw[hlen]at hn;have kx: ∀b,b<w.heap.size->w1.heap[b]?=w.heap[b]?:=fun b hb=>x1.mem b hb Env.fy;obtain⟨E',XQ⟩: ∃E',E'=E.TV E1 h.length h1.length h1:=⟨_,rfl⟩
     have m1: ∀k,k<h.length∨h.length+h1.length<=k->E'.m k=E.m k:=fun k hk=>by
      subst XQ;show(if k<h.length then E.m k else if k<h.length+h1.length then _ else E.m k)=_
      by_cases e:k<h.length
      ·rw[if_pos e]
      ·rw[if_neg e,if_neg (by omega)]
     have m2: ∀k s,k<h1.length->E1.m k=some s->(∃o,h1[k]?=some o/\((o.keeps=true/\E'.m (k+h.length)=some s)∨(o.keeps=false/\E'.m (k+h.length)=some .dead))):=fun k sl hk hs=>by
      subst XQ;obtain⟨o,ho⟩:=bD hk;refine⟨o,ho,?_⟩
      have:(E.TV E1 h.length h1.length h1).m (k+h.length)=if o.keeps then some sl else some .dead:=by
       show(if k+h.length<h.length then _ else if k+h.length<h.length+h1.length then _ else _)=_;rw[if_neg (by omega),if_pos (by omega),Nat.add_sub_cancel,hs];simp only[ho]
      rw[this];cases o.keeps
      ·exact .inr ⟨rfl,rfl⟩
      ·exact .inl ⟨rfl,rfl⟩
     have m3: ∀k sl,h.length<=k->k<h.length+h1.length->E'.m k=some sl-> ∃s1 o,E1.m (k-h.length)=some s1/\h1[k-h.length]?=some o/\((o.keeps=true/\sl=s1)∨(o.keeps=false/\sl= .dead)):=fun k sl dw jf hs=>by
      cases he1:E1.m (k-h.length)with
      |none=>
       exfalso;subst XQ
       have:(E.TV E1 h.length h1.length h1).m k=none:=by
        show(if k<h.length then _ else if k<h.length+h1.length then _ else _)=_;rw[if_neg (by omega),if_pos jf,he1]
       rw[this]at hs;cases hs
      |some s1=>
       obtain⟨o,ho,hq⟩:=m2 (k-h.length) s1 (by omega) he1;rw[show k-h.length+h.length=k by omega]at hq;refine⟨s1,o,rfl,ho,?_⟩;rcases hq with⟨h1,h2⟩|⟨h1,h2⟩
       ·rw[h2]at hs;cases hs;exact .inl ⟨h1,rfl⟩
       ·rw[h2]at hs;cases hs;exact .inr ⟨h1,rfl⟩
     have hmE: ∀id sl,E1.m id=some sl->E'.m (id+h.length)=some sl∨E'.m (id+h.length)=some .dead:=fun id sl hs=>by
      by_cases cq:id<h1.length
      ·obtain⟨o,_,hq⟩:=m2 id sl cq hs;exact hq.elim (fun h=>.inl h.2) fun h=>.inr h.2
      ·rw[f1 id (by omega)]at hs;cases hs
     have hS: ∀b,E'.S b↔E.S b:=fun b=>by subst XQ;exact Iff.rfl
     have SL: ∀k sl,E.m k=some sl->E'.m k=some sl:=fun k sl hs=>by
      by_cases hk:k<h.length∨h.length+h1.length<=k
      ·rw[m1 k hk];exact hs
      ·rw[hn k (by omega) (by omega)]at hs;cases hs
     have sJ: ∀a v,ck E w a v->ck E' w1 a v:=fun a v hr=>hr.mono (fun b hb=>(hS b).2 hb) (fun b hb=>kx b (sH.nQ b hb)) fun id sl hs=>.inl (SL id sl hs);have V7: ∀b,E1.im b->w.heap.size<=b/\b<w1.heap.size:=fun b hb=>⟨(x1.new b hb).elim (fun h=>absurd h Env.fy) id,s1.lt b hb⟩
     have Ia: ∀k sl b,E'.m k=some sl->sl.BC=some b->(k<h.length∨h.length+h1.length<=k)/\E.m k=some sl∨(h.length<=k/\k<h.length+h1.length)/\E1.m (k-h.length)=some sl:=fun k sl b hs hb=>by
      by_cases hk:k<h.length∨h.length+h1.length<=k
      ·rw[m1 k hk]at hs;exact .inl ⟨hk,hs⟩
      ·obtain⟨s1',o,g1,g2,g3⟩:=m3 k sl (by omega) (by omega) hs;rcases g3 with⟨_,rfl⟩|⟨_,rfl⟩
       ·exact .inr ⟨by omega,g1⟩
       ·cases hb
     refine⟨pQ h.length v1,_,E',rfl,⟨?_,?_,?_,?_,?_⟩,⟨fun b hb=>(hS b).2 hb,fun b hb=>.inl ((hS b).1 hb),fun b hb _=>kx b hb,fun id sl hs=>.inl (SL id sl hs),fun b hb=>?_,aB _,x1.size,x1.os,x1.tape,x1.output⟩,LH hmE iO r1,fun k=>?_⟩
     ·intro id o sl ho hs
      by_cases hk:id<h.length∨h.length+h1.length<=id
      ·rw[m1 id hk]at hs;exact(sH.obj id o sl ho hs).mono sJ fun b hb=>kx b (sH.lt b ⟨id,sl,hs,hb⟩)
      ·obtain⟨s1',o1,g1,g2,g3⟩:=m3 id sl (by omega) (by omega) hs
       have hoo:o=cJ.keep h.length o1:=by
        obtain⟨t,rfl⟩:=hp;rw[bp (by simp;omega),List.getElem?_append_right (by omega),List.getElem?_map,g2]at ho;simpa using ho.symm
       subst hoo;rcases g3 with⟨g3,rfl⟩|⟨g3,rfl⟩
       ·have Ih:=s1.obj _ _ _ g2 g1;cases o1<;>simp only[cJ.keeps]at g3<;>try(cases g3;done)
        rename_i sz es;have Vo:cJ.keep h.length (.arr sz es)= .arr sz (es.map (hZ h.length)):=by simp only[cJ.keep,cJ.keeps,g3]
        rw[Vo];cases sl<;>simp only[dR]at Ih⊢ <;>try exact Ih
        obtain⟨rfl,dT,hle,je,fJ⟩:=Ih;refine⟨rfl,dT,by simpa using hle,fun x hx=>?_,fun i x hx j c hj=>?_⟩
        ·obtain⟨y,hy,rfl⟩:=bj.1 hx;rw[mC (aG.1 g3 y hy),aO];exact je y hy
        ·rw[List.getElem?_map,ai]at hx;obtain⟨y,hy,rfl⟩:=hx;have hyc:=aG.1 g3 y (aV hy);rw[mC hyc,List.getElem?_map,ai]at hj;obtain⟨d,hd,rfl⟩:=hj;obtain⟨u',k1,k2⟩:=fJ i y hy j d hd;exact⟨u',k1,uq hmE (Ig hyc hd) k2⟩
       ·have Vo:cJ.keep h.length o1= .dead:=by cases o1<;>simp[cJ.keep,g3]
        rw[Vo];simp only[dR]
     ·intro i j si sj b hi hj rj vD;rcases Ia i si b hi rj with⟨ki,ei⟩|⟨ki,ei⟩<;>rcases Ia j sj b hj vD with⟨kj,ej⟩|⟨kj,ej⟩
      ·exact sH.inj i j si sj b ei ej rj vD
      ·exfalso;have a1:=sH.lt b ⟨i,si,ei,rj⟩;have a2:=(V7 b ⟨_,sj,ej,vD⟩).1;omega
      ·exfalso;have a1:=sH.lt b ⟨j,sj,ej,vD⟩;have a2:=(V7 b ⟨_,si,ei,rj⟩).1;omega
      ·have:=s1.inj _ _ si sj b ei ej rj vD;omega
     ·intro b hb Ve;obtain⟨k,sl,hs,A1⟩:=hb;have V8:=(hS b).1 Ve;rcases Ia k sl b hs A1 with⟨_,e⟩|⟨_,e⟩
      ·exact sH.nS b ⟨k,sl,e,A1⟩ V8
      ·have a1:=(V7 b ⟨_,sl,e,A1⟩).1;have a2:=sH.nQ b V8;omega
     ·intro b hb;obtain⟨k,sl,hs,A1⟩:=hb;rcases Ia k sl b hs A1 with⟨_,e⟩|⟨_,e⟩
      ·exact Nat.lt_of_lt_of_le (sH.lt b ⟨k,sl,e,A1⟩) x1.size
      ·exact(V7 b ⟨_,sl,e,A1⟩).2
     ·intro b hb;exact Nat.lt_of_lt_of_le (sH.nQ b ((hS b).1 hb)) x1.size
     ·obtain⟨k,sl,hs,A1⟩:=hb;rcases Ia k sl b hs A1 with⟨_,e⟩|⟨_,e⟩
      ·exact .inl ⟨k,sl,e,A1⟩
      ·exact .inr (V7 b ⟨_,sl,e,A1⟩).1
     ·by_cases hk:k<h.length∨h.length+h1.length<=k
      ·exact .inl (m1 k hk)
      ·right;rw[hlen];omega
   ·cases hc
theorem EH{S:Nat->Prop}{w1:World}{E1:Env}{a:af}{v:Value}(ha:a.NG=true)(hr:ck E1 w1 a v):eA E1.S w1 a v:=by
 cases hr with
 |eG h=>exact h
 |_=>cases ha
theorem EI{a:af}(ha:a.NH=true){j:Nat}{c:af}(hj:a.cells[j]?=some c):c.NG=true:=by
 cases a
 case agg cs=>exact aG.1 ha c (aV hj)
 all_goals
  cases j with
  |zero=>simp[af.cells]at hj;subst hj;exact ha
  |succ j=>simp[af.cells]at hj
def Env.rows(E:Env)(h:aC):Env:=⟨fun id=>match h[id]? with
 |some (.arr _ _)=>E.m id
 |some .dead=>(E.m id).map fun _=>.dead
 |_=>none,E.S⟩
theorem BO{a:af}{v:Value}(ha:a.J7 h=true)(hr:ck E w a v):ck (E.rows h) w a v:=by
 cases a<;>simp only[af.J7]at ha<;>try(cases ha;done)
 case own id st len=>
  have hm: ∀s,E.m id=some s->(E.rows h).m id=some s∨(E.rows h).m id=some .dead:=by
   intro s hs
   show(match h[id]? with
    |some (.arr _ _)=>E.m id
    |some .dead=>(E.m id).map fun _=>Slot.dead
    |_=>none)=_∨(match h[id]? with
    |some (.arr _ _)=>E.m id
    |some .dead=>(E.m id).map fun _=>Slot.dead
    |_=>none)=_
   split at ha
   ·rename_i ho;simp only[ho];exact .inl hs
   ·rename_i ho;simp only[ho,hs];exact .inr rfl
   ·cases ha
  cases hr with
  |eG h=>cases h
  |own _ _ _ a cap b iC sz gU fI hq=>
   rcases hm _ gU with g|g
   ·exact .own id st len a cap b iC sz g fI hq
   ·exact .ri id st len a cap g fI
  |ri _ _ _ a cap gU fI=>exact .ri id st len a cap ((hm _ gU).elim (fun g=>g) fun g=>g) fI
 all_goals exact .eG (EH (E1:=E) (S:=E.S) (by rfl) hr)
theorem N2{a:af}{v:Value}(ha:a.TE h=true)(hr:ck E w a v):ck (E.rows h) w a v:=by
 cases a
 case agg cs=>
  obtain⟨vs,rfl,h1,h2⟩:=hr.cX;exact .agg cs vs h1 fun i c v hc hv=>BO (aG.1 ha c (aV hc)) (h2 i c v hc hv)
 all_goals exact BO ha hr
theorem N3{id:Nat}{s:Slot}(hm:(E.rows h).m id=some s):(s= .dead/\h[id]?=some .dead)∨(E.m id=some s/\ ∃sz es,h[id]?=some (.arr sz es)):=by
 have gU:(match h[id]? with
  |some (.arr _ _)=>E.m id
  |some .dead=>(E.m id).map fun _=>Slot.dead
  |_=>none)=some s:=hm
 split at gU
 ·rename_i ho;exact .inr ⟨gU,_,_,ho⟩
 ·rename_i ho;simp only[ai]at gU;obtain⟨_,_,rfl⟩:=gU;exact .inl ⟨rfl,ho⟩
 ·cases gU
theorem zg{id:Nat}{s:Slot}{b:Nat}(hm:(E.rows h).m id=some s)(hb:s.BC=some b):E.m id=some s/\ ∃sz es,h[id]?=some (.arr sz es):=by
 rcases N3 hm with⟨rfl,_⟩|h
 ·cases hb
 ·exact h
theorem dL.rows(s:dL E h w)(hp:h.all cJ.pR=true):dL (E.rows h) h w:=by
 have im: ∀b,(E.rows h).im b->E.im b:=fun b⟨id,sl,hm,hb⟩=>⟨id,sl,(zg hm hb).1,hb⟩;refine⟨fun id o sl ho hm=>?_,fun i j si sj b hi hj rj vD=>s.inj i j si sj b (zg hi rj).1 (zg hj vD).1 rj vD,fun b hb=>s.nS b (im b hb),fun b hb=>s.lt b (im b hb),s.nQ⟩;rcases N3 hm with⟨_,hk⟩|⟨gU,sz,es,hk⟩
 ·rw[ho]at hk;cases hk
  simp only[dR]
 ·have Ih:=s.obj id o sl ho gU;rw[ho]at hk;cases hk
  have yt:=aG.1 hp _ (aV ho);simp only[cJ.pR]at yt;cases sl<;>simp only[dR]at Ih⊢ <;>try exact Ih
  obtain⟨h1,h2,h3,h4,h5⟩:=Ih;refine⟨h1,h2,h3,h4,fun i x hx j c hj=>?_⟩;obtain⟨v,hv,hr⟩:=h5 i x hx j c hj;exact⟨v,hv,.eG (EH (E1:=E) (S:=E.S) (EI (aG.1 yt x (aV hx)) hj) hr)⟩
def Env.YH(E:Env)(h:aC)(S1:Nat->Prop):Env:=⟨fun id=>match h[id]? with
 |some (.arr _ _)=>(E.m id).map fun _=>.dead
 |_=>E.m id,S1⟩
theorem p0{cf:dS}{C:pP}(hC:Sound cf C){f:FuncId}{args as:List af}{v:af}{h1:aC}{r:dz}{vs:Array Value}(hs:cj [] args=some as)(hq:C f as []=some (.ret v h1))(hv: ∃a,snap h1 v=some a/\dz.ret a h=r)(hb:fW cf.P f=true)(s:dL E h w)(hf:Full E h)(hg:sE cf.G E.S w)(hr:fS E w args vs):
  Calls cf.P f vs w (uo E h w r):=by
   have s0:dL E [] w:=s.sub List.nil_prefix;have N1:fS (Env.bare E.S) w as vs:=lg s0 (fun _ h=>h) (fun id o sl b ho=>by simp at ho) hs hr;obtain⟨v',o6,rfl⟩:=hv;refine Calls.mono (hC f as [] _ hq (Env.bare E.S) w vs hb (dL.bare s.nQ) (fun _ _=>rfl) hg N1) fun e w1 he=>?_
   cases e with
   |panicked chain=>obtain⟨_,_,_,_,he,_⟩:=he;cases he
   |outgrown=>exact he.elim
   |returned u=>
    obtain⟨v2,h2,E1,Ba,s1,f1,x1,r1⟩:=he;cases Ba
    have Q0:=jE s1 (S':=fun b=>E1.S b∨E1.im b) (fun _ h=>.inl h) (fun id o sl b _ hm hb=>.inr ⟨id,_,hm,hb⟩) _ _ _ _ o6 r1;obtain⟨p1,p2⟩:=s.plus (w1:=w1) (S1:=fun b=>E1.S b∨E1.im b) (fun b hb=>x1.mem b hb Env.fy) x1.size (fun b hb=>hb.elim (s1.nQ b) (s1.lt b)) x1.os x1.tape x1.output;refine⟨v',h,_,rfl,p1,hf,p2,.eG (Q0.mono (fun b hb=>?_) fun _ _=>rfl)⟩;rcases hb with h2|h2
    ·rcases x1.SN b h2 with h3|h3|h3
     ·exact .inl h3
     ·exact absurd h3 Env.fy
     ·exact .inr ⟨h3,.inl h2⟩
    ·rcases x1.new b h2 with h3|h3
     ·exact absurd h3 Env.fy
     ·exact .inr ⟨h3,.inr h2⟩
theorem EJ{cf:dS}{C:pP}(hC:Sound cf C){f:FuncId}(hm:cf.M f= .K){args:List af}{r:dz}{vs:Array Value}(hc:bN cf C f args h=some r)(hb:fW cf.P f=true)(s:dL E h w)(hf:Full E h)(hg:sE cf.G E.S w)(hr:fS E w args vs):
  Calls cf.P f vs w (uo E h w r):=by
   unfold bN at hc;simp only[hm]at hc
   cases hs:cj [] args with
   |some as=>
    simp only[hs]at hc
    cases hq:C f as []with
    |none=>simp[hq]at hc
    |some q=>
    cases q with
    |iK v h1=>simp[hq]at hc
    |ret v h1=>simp only[hq,ai]at hc;exact p0 hC hs hq hc hb s hf hg hr
   |none=>
    simp only[hs]at hc;split at hc
    ·rename_i hk;simp only[aj]at hk
     cases oH:cj h args with
     |none=>simp[oH]at hc
     |some as=>
     simp only[oH]at hc;have sR:=s.rows hk.2;have hrR:fS (E.rows h) w args vs:=⟨hr.1,fun i c v h1 h2=>N2 (aG.1 hk.1 c (aV h1)) (hr.2 i c v h1 h2)⟩;have N1:fS (Env.bare fun b=>E.S b∨(E.rows h).im b) w as vs:=lg sR (fun _ h=>.inl h) (fun id o sl b _ hm hb=>.inr ⟨id,_,hm,hb⟩) oH hrR
     cases hq:C f as []with
     |none=>simp[hq]at hc
     |some q=>
     cases q with
     |iK v h1=>simp[hq]at hc
     |ret v h1=>
      simp only[hq,ai]at hc;obtain⟨v',o6,rfl⟩:=hc;refine Calls.mono (hC f as [] _ hq (Env.bare fun b=>E.S b∨(E.rows h).im b) w vs hb (dL.bare fun b hb=>hb.elim (s.nQ b) (sR.lt b)) (fun _ _=>rfl) (hg.mono (fun _ h=>.inl h) fun _ _=>rfl) N1) fun e w1 he=>?_
      cases e with
      |panicked chain=>obtain⟨_,_,_,_,he,_⟩:=he;cases he
      |outgrown=>exact he.elim
      |returned u=>
       obtain⟨v2,h2,E1,Ba,s1,f1,x1,r1⟩:=he;cases Ba
       have Q0:=jE s1 (S':=fun b=>E1.S b∨E1.im b) (fun _ h=>.inl h) (fun id o sl b _ hm hb=>.inr ⟨id,_,hm,hb⟩) _ _ _ _ o6 r1;have kx: ∀b,b<w.heap.size->w1.heap[b]?=w.heap[b]?:=fun b hb=>x1.mem b hb Env.fy
       let E':Env:=E.YH h fun b=>E.S b∨(E.rows h).im b∨(w.heap.size<=b/\(E1.S b∨E1.im b))
       have imR: ∀b,(E.rows h).im b->E.im b:=fun b⟨id,sl,hm,hb⟩=>⟨id,sl,(zg hm hb).1,hb⟩
       have m1: ∀id sl,E.m id=some sl->E'.m id=some sl∨E'.m id=some .dead:=by
        intro id sl hs
        show(match h[id]? with
         |some (.arr _ _)=>(E.m id).map fun _=>Slot.dead
         |_=>E.m id)=_∨(match h[id]? with
         |some (.arr _ _)=>(E.m id).map fun _=>Slot.dead
         |_=>E.m id)=_
        split
        ·right;rw[hs];rfl
        ·left;exact hs
       have m2: ∀id sl b,E'.m id=some sl->sl.BC=some b->E.m id=some sl/\ ∀sz es,h[id]?≠some (.arr sz es):=by
        intro id sl b hs hb
        have Ko:(match h[id]? with
         |some (.arr _ _)=>(E.m id).map fun _=>Slot.dead
         |_=>E.m id)=some sl:=hs
        split at Ko
        ·simp only[ai]at Ko;obtain⟨_,_,rfl⟩:=Ko;cases hb
        ·rename_i N4;exact⟨Ko,fun sz es he=>N4 _ _ he⟩
       have sJ: ∀a v,ck E w a v->ck E' w1 a v:=fun a v hr=>hr.mono (fun b hb=>Or.inl hb) (fun b hb=>kx b (s.nQ b hb)) m1
       have Ia: ∀b,E'.im b->E.im b/\ ¬(E.rows h).im b:=by
        rintro b ⟨id,sl,hs,A1⟩
        obtain⟨g1,g2⟩:=m2 id sl b hs A1;refine⟨⟨id,sl,g1,A1⟩,?_⟩
        rintro ⟨yu,YI,YJ,Wa⟩
        obtain⟨g3,sz,es,g4⟩:=zg YJ Wa;have:=s.inj id yu sl YI b g1 g3 A1 Wa;subst this;exact g2 sz es g4
       refine⟨v',h.map cJ.freeze,E',rfl,⟨fun id o sl ho hs=>?_,fun i j si sj b hi hj rj vD=>s.inj i j si sj b (m2 i si b hi rj).1 (m2 j sj b hj vD).1 rj vD,fun b hb hS=>?_,fun b hb=>Nat.lt_of_lt_of_le (s.lt b (Ia b hb).1) x1.size,fun b hb=>?_⟩,fun k hk=>?_,⟨⟨fun b hb=>Or.inl hb,fun b hb=>?_,fun b hb _=>kx b hb,m1,fun b hb=>.inl (Ia b hb).1,by simp,x1.size,x1.os,x1.tape,x1.output⟩,fun k g1 g2=>?_⟩,.eG (Q0.mono (fun b hb=>?_) fun _ _=>rfl)⟩
       ·rw[List.getElem?_map,ai]at ho;obtain⟨o0,Q1,rfl⟩:=ho
        have Ko:(match h[id]? with
         |some (.arr _ _)=>(E.m id).map fun _=>Slot.dead
         |_=>E.m id)=some sl:=hs
        cases o0 with
        |arr sz es=>simp only[cJ.freeze,dR]
        |dead=>simp only[cJ.freeze,dR]
        |_=>
         rw[Q1]at Ko;exact(s.obj id _ sl Q1 Ko).mono sJ fun b hb=>kx b (s.lt b ⟨id,sl,Ko,hb⟩)
       ·rcases hS with h3|h3|⟨h3,_⟩
        ·exact s.nS b (Ia b hb).1 h3
        ·exact(Ia b hb).2 h3
        ·have:=s.lt b (Ia b hb).1;omega
       ·rcases hb with h3|h3|⟨_,h3|h3⟩
        ·exact Nat.lt_of_lt_of_le (s.nQ b h3) x1.size
        ·exact Nat.lt_of_lt_of_le (sR.lt b h3) x1.size
        ·exact s1.nQ b h3
        ·exact s1.lt b h3
       ·have:h[k]?=none:=List.getElem?_eq_none (by simpa using hk)
        show(match h[k]? with
         |some (.arr _ _)=>(E.m k).map fun _=>Slot.dead
         |_=>E.m k)=none
        rw[this];exact hf k (by simpa using hk)
       ·rcases hb with h3|h3|⟨h3,_⟩
        ·exact .inl h3
        ·exact .inr (.inl (imR b h3))
        ·exact .inr (.inr h3)
       ·show(match h[k]? with
         |some (.arr _ _)=>(E.m k).map fun _=>Slot.dead
         |_=>E.m k)=none
        rw[g2];split<;>rfl
       ·rcases hb with h2|h2
        ·rcases x1.SN b h2 with h3|h3|h3
         ·rcases h3 with h3|h3
          ·exact Or.inl h3
          ·exact Or.inr (.inl h3)
         ·exact absurd h3 Env.fy
         ·exact Or.inr (.inr ⟨h3,.inl h2⟩)
        ·rcases x1.new b h2 with h3|h3
         ·exact absurd h3 Env.fy
         ·exact Or.inr (.inr ⟨h3,.inr h2⟩)
    ·cases hc
def Env.kill(E:Env)(p:Nat->Bool)(S':Nat->Prop):Env:=⟨fun id=>bif p id then(E.m id).map fun _=>.dead else E.m id,S'⟩
theorem N5{p:Nat->Bool}{S':Nat->Prop}{id:Nat}{s:Slot}(hm:(E.kill p S').m id=some s):(p id=true/\s= .dead)∨(p id=false/\E.m id=some s):=by
 have gU:(bif p id then(E.m id).map fun _=>Slot.dead else E.m id)=some s:=hm
 cases hp:p id with
 |true=>
  rw[hp,cond_true,ai]at gU;obtain⟨_,_,rfl⟩:=gU
  exact .inl ⟨rfl,rfl⟩
 |false=>rw[hp,cond_false]at gU;exact .inr ⟨rfl,gU⟩
theorem oI{p:Nat->Bool}{S':Nat->Prop}{id:Nat}{s:Slot}{b:Nat}(hm:(E.kill p S').m id=some s)(hb:s.BC=some b):p id=false/\E.m id=some s:=by
 rcases N5 hm with⟨_,rfl⟩|h
 ·cases hb
 ·exact h
theorem uu{p:Nat->Bool}{S':Nat->Prop}{id:Nat}{s:Slot}(hm:E.m id=some s):(E.kill p S').m id=some s∨(E.kill p S').m id=some .dead:=by
 show(bif p id then(E.m id).map fun _=>Slot.dead else E.m id)=_∨(bif p id then(E.m id).map fun _=>Slot.dead else E.m id)=_;rw[hm];cases p id
 ·exact .inl rfl
 ·exact .inr rfl
theorem sd{p:Nat->Bool}{S':Nat->Prop}{id:Nat}(hm:E.m id=none):(E.kill p S').m id=none:=by
 show(bif p id then(E.m id).map fun _=>Slot.dead else E.m id)=none;rw[hm];cases p id<;>rfl
theorem ck.th{p:Nat->Bool}{S':Nat->Prop}{a:af}{v:Value}(hS: ∀b,E.S b->S' b)(hr:ck E w a v):ck (E.kill p S') w a v:=
 ck.mono (E:=E) (E':=E.kill p S') hS (fun _ _=>rfl) (fun _ _ hm=>uu hm) hr
theorem dL.kill{w1:World}{p:Nat->Bool}{S':Nat->Prop}(s:dL E h w)(hw: ∀b,b<w.heap.size->w1.heap[b]?=w.heap[b]?)(hz:w.heap.size<=w1.heap.size)(hS: ∀b,E.S b->S' b)
  (hn: ∀b,S' b->E.S b∨(∃id sl,p id=true/\E.m id=some sl/\sl.BC=some b)∨w.heap.size<=b) (eH: ∀b,S' b->b<w1.heap.size):dL (E.kill p S') (fg p 0 h) w1:=by
   have sJ: ∀a v,ck E w a v->ck (E.kill p S') w1 a v:=fun a v hr=>hr.mono hS (fun b hb=>hw b (s.nQ b hb)) fun id sl hm=>uu hm;refine⟨fun id o sl ho hm=>?_,fun i j si sj b hi hj rj vD=>s.inj i j si sj b (oI hi rj).2 (oI hj vD).2 rj vD,fun b⟨id,sl,hm,hb⟩ hS=>?_,fun b⟨id,sl,hm,hb⟩=>Nat.lt_of_lt_of_le (s.lt b ⟨id,sl,(oI hm hb).2,hb⟩) hz,eH⟩
   ·rw[sc,ai]at ho;obtain⟨o0,Q1,rfl⟩:=ho;rw[bg];rcases N5 hm with⟨hp,_⟩|⟨hp,gU⟩
    ·rw[hp];simp only[cond_true,dR]
    ·rw[hp];exact(s.obj id _ sl Q1 gU).mono sJ fun b hb=>hw b (s.lt b ⟨id,sl,gU,hb⟩)
   ·obtain⟨hp,gU⟩:=oI hm hb;rcases hn b hS with h1|⟨yu,YI,HB,Nk,Vl⟩|h1
    ·exact s.nS b ⟨id,sl,gU,hb⟩ h1
    ·have:=s.inj id yu sl YI b gU Nk hb Vl;subst this;rw[hp]at HB;cases HB
    ·have:=s.lt b ⟨id,sl,gU,hb⟩;omega
theorem EK{cf:dS}{C:pP}(hC:Sound cf C){f:FuncId}(hm:cf.M f= .R){args:List af}{r:dz}{vs:Array Value}(hc:bN cf C f args h=some r)(hb:fW cf.P f=true)(s:dL E h w)(hf:Full E h)(hg:sE cf.G E.S w)(hr:fS E w args vs):
  Calls cf.P f vs w (uo E h w r):=by
   unfold bN at hc;simp only[hm]at hc
   cases hq:C f args h with
   |none=>simp[hq]at hc
   |some q=>
   cases q with
   |iK v h1=>simp[hq]at hc
   |ret v h1=>
   simp only[hq]at hc;split at hc
   ·rename_i hle;have hle:h.length<=h1.length:=Nat.le_of_ble_eq_true hle;simp only[ai]at hc;obtain⟨v',o6,rfl⟩:=hc;refine Calls.mono (hC f args h _ hq E w vs hb s hf hg hr) fun e w1 he=>?_
    cases e with
    |panicked chain=>obtain⟨_,_,_,_,he,_⟩:=he;cases he
    |outgrown=>exact he.elim
    |returned u=>
     obtain⟨v2,h2,E1,Ba,s1,f1,x1,r1⟩:=he;cases Ba
     let p:Nat->Bool:=Nat.ble h.length
     let S':Nat->Prop:=fun b=>E1.S b∨ ∃id sl,p id=true/\E1.m id=some sl/\sl.BC=some b
     let q:Nat->Bool:=fun i=>Nat.blt i h.length
     have s2:dL (E1.kill q E1.S) (fg q 0 h1) w1:=s1.kill (fun _ _=>rfl) (aB _) (fun _ h=>h) (fun _ h=>.inl h) s1.nQ;have r2:ck (E1.kill q E1.S) w1 v u:=r1.th fun _ h=>h
     have Q0:=jE s2 (S':=S') (fun _ h=>.inl h) (fun id o sl b _ hm hb=>.inr (by
      obtain⟨g1,g2⟩:=oI hm hb;refine⟨id,sl,?_,g2,hb⟩;refine Nat.ble_eq.mpr (Nat.le_of_not_lt fun eH=>?_);have:q id=true:=Nat.ble_eq.mpr eH;rw[g1]at this;cases this)) _ _ _ _ o6 r2
     refine⟨v',fg p 0 h1,E1.kill p S',rfl,s1.kill (fun _ _=>rfl) (aB _) (fun _ h=>.inl h) (fun b hb=>hb.elim .inl fun h=>.inr (.inl h)) (fun b hb=>hb.elim (s1.nQ b) fun⟨id,sl,_,g1,g2⟩=>s1.lt b ⟨id,sl,g1,g2⟩),fun k hk=>sd (f1 k (by rw[f0]at hk;exact hk)),⟨⟨fun b hb=>.inl (x1.S b hb),fun b hb=>?_,x1.mem,fun id sl hm=>?_,fun b⟨id,sl,g1,g2⟩=>x1.new b ⟨id,sl,(oI g1 g2).2,g2⟩,by rw[f0];exact hle,x1.size,x1.os,x1.tape,x1.output⟩,fun id g1 g2=>sd (x1.fresh id g1 g2)⟩,.eG Q0⟩
     ·rcases hb with hb|⟨id,sl,_,g1,g2⟩
      ·exact x1.SN b hb
      ·exact(x1.new b ⟨id,sl,g1,g2⟩).elim (fun h=>.inr (.inl h)) fun h=>.inr (.inr h)
     ·rcases x1.m id sl hm with h3|h3
      ·exact uu h3
      ·exact .inr ((uu h3).elim (fun h=>h) fun h=>h)
   ·cases hc
theorem dL.YK{h0:aC}{p:Nat->Bool}{j:Bool}(s:dL E h w)(hT: ∀id cs b iC sz(k:Nat) c,h[id]?=some (.box (.agg cs))->E.m id=some (.live b iC sz)->cs[k]?=some c-> ∃u,w.cell? ⟨b,0+k,none⟩=some u/\ ∀a,snap h0 c=some a->ck E w a u):dL E (J9 j h0 p h) w:=by
 cases j with
 |false=>exact s
 |true=>
 refine⟨fun id o sl ho hm=>?_,s.inj,s.nS,s.lt,s.nQ⟩;have gI:(h.map (w8 h0 p))[id]?=some o:=ho;rw[List.getElem?_map,ai]at gI;obtain⟨o0,Q1,rfl⟩:=gI;have h1:=s.obj id o0 sl Q1 hm
 cases o0 with
 |box x=>
  cases x with
  |agg cs=>
   cases sl with
   |live b iC sz=>
    refine⟨h1.1,by simpa[af.cells]using h1.2.1,fun k c hc=>?_⟩;have tf:(cs.map (J8 h0 p))[k]?=some c:=hc;rw[List.getElem?_map,ai]at tf;obtain⟨c0,um,rfl⟩:=tf;obtain⟨u,hu,hr⟩:=h1.2.2 k c0 um;refine⟨u,hu,?_⟩;obtain⟨u2,QR,h2⟩:=hT id cs b iC sz k c0 Q1 hm um;rw[hu]at QR;cases QR
    cases c0<;>try exact hr
    simp only[J8];split
    ·split
     ·rename_i x hx;exact h2 _ hx
     ·exact hr
    ·exact hr
   |_=>exact h1.elim
  |_=>exact h1
 |_=>exact h1
theorem zh{cf:dS}{C:pP}{j:Bool}(hC:Sound cf C){f:FuncId}{args:List af}{r:dz}{vs:Array Value}(hc:oY j C f args h=some r)(hb:fW cf.P f=true)(s:dL E h w)(hf:Full E h)(hg:sE cf.G E.S w)(hr:fS E w args vs):
  Calls cf.P f vs w (uo E h w r):=by
   unfold oY at hc
   cases oH:cj (fg (fun i=>!eO h args i) 0 h) args with
   |none=>simp[oH]at hc
   |some as=>
   simp only[oH]at hc
   cases hq:C f as []with
   |none=>simp[hq]at hc
   |some q=>
   cases q with
   |iK v h1=>simp[hq]at hc
   |ret v h1=>
    simp only[hq,ai]at hc;obtain⟨v',o6,rfl⟩:=hc
    let p:Nat->Bool:=eO h args
    let q:Nat->Bool:=fun i=>!eO h args i
    let I:Nat->Prop:=fun b=>∃id sl,p id=true/\E.m id=some sl/\sl.BC=some b
    have iE: ∀b,I b->E.im b:=fun b⟨id,sl,_,g1,g2⟩=>⟨id,sl,g1,g2⟩;have s2:dL (E.kill q E.S) (fg q 0 h) w:=s.kill (fun _ _=>rfl) (aB _) (fun _ h=>h) (fun _ h=>.inl h) s.nQ;have r2:fS (E.kill q E.S) w args vs:=⟨hr.1,fun i c v h1 h2=>(hr.2 i c v h1 h2).th fun _ h=>h⟩
    have N1:fS (Env.bare fun b=>E.S b∨I b) w as vs:=lg s2 (fun _ h=>.inl h) (fun id o sl b _ hm hb=>.inr (by
     obtain⟨g1,g2⟩:=oI hm hb;refine⟨id,sl,?_,g2,hb⟩;have:(!eO h args id)=false:=g1;simpa using this)) oH r2
    refine Calls.mono (hC f as [] _ hq (Env.bare fun b=>E.S b∨I b) w vs hb (dL.bare fun b hb=>hb.elim (s.nQ b) fun h=>s.lt b (iE b h)) (fun _ _=>rfl) (hg.mono (fun _ h=>.inl h) fun _ _=>rfl) N1) fun e w1 he=>?_
    cases e with
    |panicked chain=>obtain⟨_,_,_,_,he,_⟩:=he;cases he
    |outgrown=>exact he.elim
    |returned u=>
     obtain⟨v2,h2,E1,Ba,s1,f1,x1,r1⟩:=he;cases Ba
     let S':Nat->Prop:=fun b=>E.S b∨I b∨(w.heap.size<=b/\(E1.S b∨E1.im b))
     have Q0:=jE s1 (S':=fun b=>E1.S b∨E1.im b) (fun _ h=>.inl h) (fun id o sl b _ hm hb=>.inr ⟨id,_,hm,hb⟩) _ _ _ _ o6 r1;have kx: ∀b,b<w.heap.size->w1.heap[b]?=w.heap[b]?:=fun b hb=>x1.mem b hb Env.fy
     have sK:dL (E.kill p S') (fg p 0 h) w1:=s.kill kx x1.size (fun _ h=>.inl h) (fun b hb=>by
      rcases hb with h3|h3|⟨h3,_⟩
      ·exact .inl h3
      ·exact .inr (.inl h3)
      ·exact .inr (.inr h3)) (fun b hb=>by
      rcases hb with h3|h3|⟨_,h3|h3⟩
      ·exact Nat.lt_of_lt_of_le (s.nQ b h3) x1.size
      ·exact Nat.lt_of_lt_of_le (s.lt b (iE b h3)) x1.size
      ·exact s1.nQ b h3
      ·exact s1.lt b h3)
     have sT:dL (E.kill p S') (J9 j (fg q 0 h) p (fg p 0 h)) w1:=sK.YK (p:=p) fun id cs b iC sz k c ho hm hc=>by
      rw[sc,ai]at ho;obtain⟨o0,Q1,YL⟩:=ho;rw[bg]at YL;obtain⟨Nl,gU⟩:=oI (b:=b) hm rfl;rw[Nl,cond_false]at YL;subst YL;have TW:dR E w (.box (.agg cs)) (.live b iC sz):=s.obj id _ _ Q1 gU;obtain⟨u,hu,vM⟩:=TW.2.2 k c hc;refine⟨u,by rw[World.cell?_of_block (w:=w) (kx b (s.lt b ⟨id,_,gU,rfl⟩))];exact hu,fun a' ha=>?_⟩;have hz:ck (E.kill q E.S) w c u:=vM.th fun _ h=>h
      have:=jE s2 (S':=fun b=>E.S b∨I b) (fun _ h=>.inl h) (fun id o sl b _ hm hb=>.inr (by
       obtain⟨g1,g2⟩:=oI hm hb;refine⟨id,sl,?_,g2,hb⟩;have:(!eO h args id)=false:=g1;simpa using this)) _ _ _ _ ha hz
      exact .eG (this.mono (fun b hb=>hb.elim .inl fun h=>.inr (.inl h)) fun b hb=>kx b (hb.elim (s.nQ b) fun h=>s.lt b (iE b h)))
     have hlen:(J9 j (fg q 0 h) p (fg p 0 h)).length=h.length:=by
      cases j
      ·exact f0 _ _ _
      ·show(List.map _ _).length=_;rw[aO,f0]
     refine⟨v',_,E.kill p S',rfl,sT,fun k hk=>sd (hf k (by rw[hlen]at hk;exact hk)),⟨⟨fun b hb=>.inl hb,fun b hb=>?_,fun b hb _=>kx b hb,fun id sl hm=>uu hm,fun b⟨id,sl,g1,g2⟩=>.inl ⟨id,sl,(oI g1 g2).2,g2⟩,by rw[hlen];exact aB _,x1.size,x1.os,x1.tape,x1.output⟩,fun id g1 g2=>sd g2⟩,.eG (Q0.mono (fun b hb=>?_) fun _ _=>rfl)⟩
     ·rcases hb with h3|h3|⟨h3,_⟩
      ·exact .inl h3
      ·exact .inr (.inl (iE b h3))
      ·exact .inr (.inr h3)
     ·rcases hb with h2|h2
      ·rcases x1.SN b h2 with h3|h3|h3
       ·exact h3.elim .inl fun h=>.inr (.inl h)
       ·exact absurd h3 Env.fy
       ·exact .inr (.inr ⟨h3,.inl h2⟩)
      ·rcases x1.new b h2 with h3|h3
       ·exact absurd h3 Env.fy
       ·exact .inr (.inr ⟨h3,.inr h2⟩)
theorem EL{cf:dS}{C:pP}(hC:Sound cf C){f:FuncId}(hm:cf.M f= .V){args:List af}{r:dz}{vs:Array Value}(hc:bN cf C f args h=some r)(hb:fW cf.P f=true)(s:dL E h w)(hf:Full E h)(hg:sE cf.G E.S w)(hr:fS E w args vs):
  Calls cf.P f vs w (uo E h w r):=by
   unfold bN at hc;simp only[hm]at hc
   cases hs:cj [] args with
   |some as=>
    simp only[hs]at hc
    cases hq:C f as []with
    |none=>simp[hq]at hc
    |some q=>
    cases q with
    |iK v h1=>simp[hq]at hc
    |ret v h1=>simp only[hq,ai]at hc;exact p0 hC hs hq hc hb s hf hg hr
   |none=>simp only[hs]at hc;exact zh hC hc hb s hf hg hr
theorem EM{cf:dS}{C:pP}(hC:Sound cf C){f:FuncId}(hm:cf.M f= .X){args:List af}{r:dz}{vs:Array Value}(hc:bN cf C f args h=some r)(hb:fW cf.P f=true)(s:dL E h w)(hf:Full E h)(hg:sE cf.G E.S w)(hr:fS E w args vs):
  Calls cf.P f vs w (uo E h w r):=by
   unfold bN at hc;simp only[hm]at hc
   cases hs:cj [] args with
   |some as=>
    simp only[hs]at hc
    cases hq:C f as []with
    |none=>simp[hq]at hc
    |some q=>
    cases q with
    |iK v h1=>simp[hq]at hc
    |ret v h1=>simp only[hq,ai]at hc;exact p0 hC hs hq hc hb s hf hg hr
   |none=>simp only[hs]at hc;exact zh hC hc hb s hf hg hr
theorem ru{cf:dS}{C:pP}(hC:Sound cf C){f:FuncId}{args:List af}{r:dz}{vs:Array Value}(hc:bN cf C f args h=some r)(hb:fW cf.P f=true)(s:dL E h w)(hf:Full E h)(hg:sE cf.G E.S w)(hr:fS E w args vs):
  Calls cf.P f vs w (uo E h w r):=by
   cases hm:cf.M f with
   |X=>exact EM hC hm hc hb s hf hg hr
   |K=>exact EJ hC hm hc hb s hf hg hr
   |R=>exact EK hC hm hc hb s hf hg hr
   |V=>exact EL hC hm hc hb s hf hg hr
   |F=>unfold bN at hc;simp only[hm]at hc;exact hC f args h r hc E w vs hb s hf hg hr
   |N=>
    cases r with
    |iK v h'=>
     exfalso;unfold bN at hc;simp only[hm]at hc;split at hc
     ·split at hc
      ·split at hc<;>cases hc
      ·cases hc
     ·cases hc
    |ret v h'=>
     have pe:h <+: h':=by
      have tf:=hc;unfold bN at tf;simp only[hm]at tf;split at tf
      ·split at tf
       ·split at tf
        ·cases tf;exact List.prefix_append _ _
        ·cases tf
       ·cases tf
      ·cases tf
     obtain⟨_,xi⟩:=xh hC hm hc hb (List.prefix_refl h') (fun k h1 _=>hf k h1) (s.more pe hf) hg hr;refine Calls.mono xi fun e w1 he=>?_
     cases e with
     |panicked chain=>exact he.elim
     |outgrown=>exact he.elim
     |returned u=>
      obtain⟨v2,h2,E',hq,s',x',r',gU⟩:=he;cases hq
      refine⟨v,h',E',rfl,s',fun k hk=>?_,⟨⟨x'.S,x'.SN,x'.mem,x'.m,x'.new,pe.length_le,x'.size,x'.os,x'.tape,x'.output⟩,fun k g1 g2=>(gU k).elim (fun h=>h.trans g2) fun h=>by omega⟩,r'⟩;rcases gU k with h1|⟨_,h2⟩
      ·rw[h1];exact hf k (bw pe.length_le hk)
      ·omega
   |P=>
    refine Calls.mono (xg hC hm hc hb (List.prefix_refl _) s hg hr) fun e w1 he=>?_
    cases e with
    |returned u=>obtain⟨v,S1,rfl,p1,p2,p3⟩:=he;exact⟨v,h,_,rfl,p1,hf,p2,p3⟩
    |panicked chain=>obtain⟨v,S1,u,rfl,rfl,p1,p2,p3⟩:=he;exact⟨v,h,_,u,rfl,rfl,p1,hf,p2,p3⟩
    |outgrown=>exact he.elim
end
end Go.Am

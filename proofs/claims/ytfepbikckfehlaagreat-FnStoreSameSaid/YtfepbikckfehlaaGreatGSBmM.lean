/- Frozen values; calls by mode. -/
import Derived.Test.YtfepbikckfehlaaGreatGH5
set_option linter.unusedVariables false
set_option linter.unusedSimpArgs false
set_option maxHeartbeats 4000000
namespace Go.Am
open Go
section
variable{P:Program}{E:Env}{w:World}{h:aG}
theorem de.func2{fn:Fn}{a b:List af}{v:Value}(h:de E w (.func fn a b) v): ∃va vb,v= .func fn va vb/\a.length=va.size/\b.length=vb.size/\
  (∀(i:Nat)(c:af)(v:Value),a[i]?=some c->va[i]?=some v->de E w c v)/\ ∀(i:Nat)(c:af)(v:Value),b[i]?=some c->vb[i]?=some v->de E w c v:=by
   cases h with
   |fJ h=>cases h with|func _ _ _ va vb Ng vM PB PC=>exact⟨va,vb,rfl,Ng,vM,fun i c v h1 h2=>.fJ (PB i c v h1 h2),fun i c v h1 h2=>.fJ (PC i c v h1 h2)⟩
   |func _ _ _ va vb Ng vM PB PC=>exact⟨va,vb,rfl,Ng,vM,PB,PC⟩
theorem AG(h:aG): ∀(n:Nat)(x x':af),cI h n x=some x'->x'.cells.length=x.cells.length/\ ∀(j:Nat)(c:af),x.cells[j]?=some c-> ∃c',x'.cells[j]?=some c'/\cI h n c=some c':=by
 intro n x x' hx
 have one:x.cells=[x]->x'.cells=[x']->x'.cells.length=x.cells.length/\ ∀(j:Nat)(c:af),x.cells[j]?=some c-> ∃c',x'.cells[j]?=some c'/\cI h n c=some c':=by
  intro e1 e2;rw[e1,e2];refine⟨rfl,fun j c hj=>?_⟩
  cases j with
  |zero=>simp at hj;subst hj;exact⟨x',rfl,hx⟩
  |succ j=>simp at hj
 cases n with
 |zero=>simp[cI]at hx
 |succ n=>
  cases x<;>simp only[cI]at hx
  case agg cs=>
   simp only[nM]at hx;obtain⟨l,hl,rfl⟩:=hx;obtain⟨h1,h2⟩:=iO hl;refine⟨h1.symm,fun j c hj=>?_⟩;obtain⟨c',uJ⟩:=bP (l:=l) (i:=j) (by rw[<-h1];exact(aag.1 hj).1);exact⟨c',uJ,JG h n _ _ (h2 j c c' hj uJ)⟩
  case eT cs=>simp only[nM]at hx;obtain⟨l,hl,rfl⟩:=hx;exact one rfl rfl
  case func fn a b=>
   split at hx
   ·cases hx;exact one rfl rfl
   ·cases hx
  case iface t v=>simp only[nM]at hx;obtain⟨l,hl,rfl⟩:=hx;exact one rfl rfl
  case own id st len=>
   split at hx
   ·split at hx
    ·simp only[nM]at hx;obtain⟨l,hl,rfl⟩:=hx;exact one rfl rfl
    ·cases hx
   ·cases hx
  case map id=>
   split at hx
   ·split at hx
    ·cases hx;exact one rfl rfl
    ·cases hx
   ·cases hx
  case ptr id i off=>
   split at hx
   ·split at hx
    ·simp only[nM]at hx;obtain⟨l,hl,rfl⟩:=hx;exact one rfl rfl
    ·cases hx
   ·simp only[nM]at hx;obtain⟨l,hl,rfl⟩:=hx;exact one rfl rfl
   ·cases hx
  all_goals first|(cases hx;exact one rfl rfl)|cases hx
theorem kX(s:eG E h w){S':Nat->Prop}(hS: ∀b,E.S b->S' b)(SR: ∀id o sl b,h[id]?=some o->E.m id=some sl->sl.Da=some b->S' b):
  ∀(n:Nat)(a a':af)(v:Value),cI h n a=some a'->de E w a v->fD S' w a' v:=by
   have XX: ∀id o b jB sz,h[id]?=some o->E.m id=some (.live b jB sz)->S' b:=fun id o b jB sz h1 h2=>SR id o _ b h1 h2 rfl;have aap: ∀id o b,h[id]?=some o->E.m id=some (.JH b)->S' b:=fun id o b h1 h2=>SR id o _ b h1 h2 rfl;intro n
   induction n with
   |zero=>intro a a' v hh;simp[cI]at hh
   |succ n ih=>
    intro a a' v hh hr
    have same:(∃hc:fD E.S w a v,True)->a'=a->fD S' w a' v:=by
     rintro ⟨hc,_⟩ rfl
     exact hc.mono hS fun _ _=>rfl
    have row: ∀(b o sz:Nat)(es xs:List af),S' b->di (cI h n) es=some xs->(∀x∈es,x.cells.length=sz)->(∀(i:Nat)(x:af),es[i]?=some x->jO E w b (o+i*sz) x)->
      xs.length=es.length/\(∀x∈xs,x.cells.length=sz)/\ ∃vs:Nat->Nat->Value,(∀(i j:Nat)(x c:af),xs[i]?=some x->x.cells[j]?=some c->S' b/\w.cell? ⟨b,o+(i*sz+j),none⟩=some (vs i j))/\
       ∀(i j:Nat)(x c:af),xs[i]?=some x->x.cells[j]?=some c->fD S' w c (vs i j):=by
        intro b o sz es xs hb hm hs hc;obtain⟨h1,h2⟩:=iO hm
        have back: ∀(i:Nat)(x':af),xs[i]?=some x'-> ∃x,es[i]?=some x/\cI h n x=some x':=by
         intro i x' vS;obtain⟨x,hx⟩:=bP (l:=es) (i:=i) (by rw[h1];exact(aag.1 vS).1);exact⟨x,hx,h2 i x x' hx vS⟩
        have cell: ∀(i j:Nat)(x' c':af),xs[i]?=some x'->x'.cells[j]?=some c'-> ∃v,w.cell? ⟨b,o+(i*sz+j),none⟩=some v/\fD S' w c' v:=by
         intro i j x' c' vS hj;obtain⟨x,hx,hsx⟩:=back i x' vS;obtain⟨g1,g2⟩:=AG h n x x' hsx;obtain⟨c,hcj⟩:=bP (l:=x.cells) (i:=j) (by rw[<-g1];exact(aag.1 hj).1);obtain⟨c2,Gd,sc⟩:=g2 j c hcj;rw[hj]at Gd;cases Gd
         obtain⟨v,hv,Ma⟩:=hc i x hx j c hcj;exact⟨v,by rw[<-abI];exact hv,ih c c' v sc Ma⟩
        refine⟨h1.symm,fun x' vS=>?_,fun i j=>(w.cell? ⟨b,o+(i*sz+j),none⟩).getD undef,fun i j x' c' vS hj=>?_,fun i j x' c' vS hj=>?_⟩
        ·obtain⟨i,hi⟩:=List.mem_iff_getElem?.1 vS;obtain⟨x,hx,hsx⟩:=back i x' hi;rw[(AG h n x x' hsx).1];exact hs x (aaq hx)
        ·obtain⟨v,hv,_⟩:=cell i j x' c' vS hj;exact⟨hb,by simp only[hv,Option.getD_some]⟩
        ·obtain⟨v,hv,Ma⟩:=cell i j x' c' vS hj;simp only[hv,Option.getD_some];exact Ma
    cases a<;>simp only[cI]at hh
    case int=>cases hh;cases hr with|fJ hc=>exact same ⟨hc,trivial⟩ rfl
    case bool=>cases hh;cases hr with|fJ hc=>exact same ⟨hc,trivial⟩ rfl
    case str=>cases hh;cases hr with|fJ hc=>exact same ⟨hc,trivial⟩ rfl
    case sl=>cases hh;cases hr with|fJ hc=>exact same ⟨hc,trivial⟩ rfl
    case fQ=>cases hh;cases hr with|fJ hc=>exact same ⟨hc,trivial⟩ rfl
    case sx=>cases hh;cases hr with|fJ hc=>exact same ⟨hc,trivial⟩ rfl
    case qY=>cases hh;cases hr with|fJ hc=>exact same ⟨hc,trivial⟩ rfl
    case zB=>cases hh;cases hr with|fJ hc=>exact same ⟨hc,trivial⟩ rfl
    case gv=>cases hh;cases hr with|fJ hc=>exact same ⟨hc,trivial⟩ rfl
    case qZ=>cases hh;cases hr with|fJ hc=>exact same ⟨hc,trivial⟩ rfl
    case oo=>cases hh;cases hr with|fJ hc=>exact same ⟨hc,trivial⟩ rfl
    case map id=>
     split at hh
     ·rename_i ks vs ho;split at hh
      ·rename_i kC fx h1 h2;cases hh
       obtain⟨b,rfl,Cv⟩:=hr.map';rcases Cv with Cv|Cv
       ·have hk:=s.obj id _ _ ho Cv;simp only[eO]at hk;obtain⟨es,clock,hb,l1,l2,r1,r2⟩:=hk;obtain⟨g1,g2⟩:=iO h1;obtain⟨k1,k2⟩:=iO h2;refine .oo kC fx b clock es (aap id _ b ho Cv) hb (by omega) (by omega) (fun i k e hk he=>?_) (fun i v e hv he=>?_)
        ·obtain⟨c0,vW⟩:=bP (l:=ks) (i:=i) (by rw[g1];exact(aag.1 hk).1);exact ih c0 k _ (g2 i c0 k vW hk) (r1 i c0 e vW he)
        ·obtain⟨c0,vW⟩:=bP (l:=vs) (i:=i) (by rw[k1];exact(aag.1 hv).1);exact ih c0 v _ (k2 i c0 v vW hv) (r2 i c0 e vW he)
       ·have:=s.obj id _ _ ho Cv;simp[eO]at this
      ·cases hh
     ·cases hh
    case it=>cases hh
    case nil=>
     cases hh
     cases hr with
     |fJ hc=>
      cases hc with
      |nil ad=>exact .sl [] ad 0 0 0 0 (fun _ _=>undef) (fun h=>absurd rfl h) (aah _) (fun x hx=>by simp at hx) (fun i j x c hx=>by simp at hx) (fun i j x c hx=>by simp at hx)
    case agg cs=>
     simp only[nM]at hh;obtain⟨l,hl,rfl⟩:=hh;obtain⟨vs,rfl,h1,h2⟩:=hr.dE;obtain⟨g1,g2⟩:=iO hl;refine .agg l vs (by omega) fun i c v hc hv=>?_;obtain⟨c0,vW⟩:=bP (l:=cs) (i:=i) (by rw[g1];exact(aag.1 hc).1);exact ih c0 c v (g2 i c0 c vW hc) (h2 i c0 v vW hv)
    case eT cs=>
     simp only[nM]at hh;obtain⟨l,hl,rfl⟩:=hh;obtain⟨vs,rfl,h1,h2⟩:=hr.SE;obtain⟨g1,g2⟩:=iO hl;refine .eT l vs (by omega) fun i c v hc hv=>?_;obtain⟨c0,vW⟩:=bP (l:=cs) (i:=i) (by rw[g1];exact(aag.1 hc).1);exact ih c0 c v (g2 i c0 c vW hc) (h2 i c0 v vW hv)
    case func fn xs ys=>
     split at hh
     ·rename_i as bs ha hb;cases hh
      obtain⟨va,vb,rfl,l1,l2,r1,r2⟩:=hr.func2;obtain⟨g1,g2⟩:=iO ha;obtain⟨k1,k2⟩:=iO hb;refine .func fn as bs va vb (by omega) (by omega) (fun i c v hc hv=>?_) (fun i c v hc hv=>?_)
      ·obtain⟨c0,vW⟩:=bP (l:=xs) (i:=i) (by rw[g1];exact(aag.1 hc).1);exact ih c0 c v (g2 i c0 c vW hc) (r1 i c0 v vW hv)
      ·obtain⟨c0,vW⟩:=bP (l:=ys) (i:=i) (by rw[k1];exact(aag.1 hc).1);exact ih c0 c v (k2 i c0 c vW hc) (r2 i c0 v vW hv)
     ·cases hh
    case iface t x=>
     simp only[nM]at hh;obtain⟨x',vS,rfl⟩:=hh;obtain⟨u,rfl,hu⟩:=hr.Av;exact .iface t x' u (ih _ _ _ vS hu)
    case own id st len=>
     split at hh
     ·rename_i sz es ho;split at hh
      ·rename_i hle;simp only[nM]at hh;obtain⟨xs,zN,rfl⟩:=hh
       cases hr with
       |fJ hc=>cases hc
       |sE _ _ _ ad cap hm gM=>
        have:=s.obj id _ _ ho hm
        simp[eO]at this
       |own _ _ _ ad cap b jB Xi hm gM hp=>
        have hk:=s.obj id _ _ ho hm;simp only[eO]at hk;obtain⟨rfl,eQ,SL,hs,gN⟩:=hk
        obtain⟨h1,h2,vs,h3,h4⟩:=row b (st*sz) sz _ xs (XX _ _ _ _ _ ho hm) zN (fun x hx=>hs x (List.mem_of_mem_drop (abz hx))) (fun i x hx=>by
         have hi:i<len:=by
          have:=(aag.1 hx).1;simp at this;omega
         rw[aby,if_pos hi,List.getElem?_drop]at hx;have:=gN _ x hx;rw[Nat.add_mul]at this;exact this)
        have hlen:xs.length=len:=by rw[h1];simp;omega
        have:=fD.sl (S:=S') (w:=w) xs ad cap sz b (st*sz) vs (fun mD=>?_) (by omega) h2 h3 h4
        ·rw[hlen]at this;exact this
        ·rcases hp with⟨h5,_⟩|⟨h5,_⟩
         ·exact absurd (List.eq_nil_of_length_eq_zero (by omega)) mD
         ·exact h5
      ·cases hh
     ·cases hh
    case ptr id i off=>
     cases ho:h[id]? with
     |none=>simp[ho]at hh
     |some o=>
      cases hr with
      |fJ hc=>cases hc
      |xy _ _ _ ad hm=>
       have:=s.obj id _ _ ho hm
       cases o<;>simp only[eO]at this<;>simp[ho]at hh
      |ptr _ _ _ b jB Xi hm=>
       have hk:=s.obj id _ _ ho hm
       cases o with
       |box x=>
        simp only[ho]at hh;simp only[eO]at hk;split at hh
        ·rename_i hi;subst hi;simp only[nM]at hh;obtain⟨x',vS,rfl⟩:=hh
         obtain⟨h1,h2,vs,h3,h4⟩:=row b 0 x.cells.length [x] [x'] (XX _ _ _ _ _ ho hm) (by simp[di,vS]) (fun y hy=>by simp at hy;subst hy;rfl) (fun i y hy=>by
          cases i with
          |zero=>simp at hy;subst hy;simpa using hk.2.2
          |succ i=>simp at hy)
         have:=fD.fQ (S:=S') (w:=w) [x'] 0 off x.cells.length b 0 vs h2 h3 h4;simpa using this
        ·cases hh
       |arr sz es=>
        simp only[ho,nM]at hh;obtain⟨xs,zN,rfl⟩:=hh;simp only[eO]at hk;obtain⟨rfl,eQ,SL,hs,gN⟩:=hk;obtain⟨h1,h2,vs,h3,h4⟩:=row b 0 sz es xs (XX _ _ _ _ _ ho hm) zN hs (fun i x hx=>by rw[aaK];exact gN i x hx);have:=fD.fQ (S:=S') (w:=w) xs i off sz b 0 vs h2 h3 h4;rw[aaK]at this
        exact this
       |qv ks vs=>simp[ho]at hh
       |iter q pos=>simp[ho]at hh
       |dead=>simp[ho]at hh
def hH(E:Env)(w:World)(as:List af)(vs:Array Value):Prop:=as.length=vs.size/\ ∀(i:Nat)(c:af)(v:Value),as[i]?=some c->vs[i]?=some v->de E w c v
def vX(E:Env)(h:aG)(w:World)(r:ef):Ending->World->Prop
 | .returned u,w'=>∃v h' E',r= .ret v h'/\eG E' h' w'/\Full E' h'/\Ext E h w E' h' w'/\de E' w' v u
 | .panicked chain,w'=>∃v h' E' u,r= .jI v h'/\chain=[{v:=u,recovered:=false}]/\eG E' h' w'/\Full E' h'/\Ext E h w E' h' w'/\de E' w' v u
 | .outgrown,_=>False
def Sound(cf:eP)(C:q0):Prop:=∀f args h r,C f args h=some r-> ∀(E:Env)(w:World)(vs:Array Value),ia cf.P f=true->eG E h w->Full E h->ug cf.G E.S w->hH E w args vs->Calls cf.P f vs w (vX E h w r)
theorem ug.mono{G:Nat->Option af}{S S':Nat->Prop}{w w':World}(hg:ug G S w)(hS: ∀b,S b->S' b)(hw: ∀b,S b->w'.heap[b]?=w.heap[b]?):ug G S' w':=fun g v h=>(hg g v h).mono hS hw
theorem ug.ext{G:Nat->Option af}{E':Env}{h':aG}{w':World}(hg:ug G E.S w)(s:eG E h w)(x:Ext E h w E' h' w'):ug G E'.S w':=hg.mono x.S fun b hb=>x.PE s hb
theorem hH.ext{E':Env}{h':aG}{w':World}{as:List af}{vs:Array Value}(hr:hH E w as vs)(s:eG E h w)(x:Ext E h w E' h' w'):hH E' w' as vs:=⟨hr.1,fun i c v h1 h2=>(hr.2 i c v h1 h2).ext x s⟩
def Env.bare(S:Nat->Prop):Env:=⟨fun _=>none,S⟩
theorem Env.gC{S:Nat->Prop}{b:Nat}: ¬(Env.bare S).im b:=by rintro ⟨id,s,h,_⟩;cases h
theorem eG.bare{S:Nat->Prop}(h: ∀b,S b->b<w.heap.size):eG (Env.bare S) [] w:=
 ⟨fun id o s ho=>by simp at ho,fun i j si sj b hi=>by simp[Env.bare]at hi,fun b hb=>absurd hb Env.gC,fun b hb=>absurd hb Env.gC,h⟩
def Env.plus(E:Env)(w:World)(S1:Nat->Prop):Env:=⟨E.m,fun b=>E.S b∨(w.heap.size<=b/\S1 b)⟩
theorem eG.plus{w1:World}{S1:Nat->Prop}(s:eG E h w)(hw: ∀b,b<w.heap.size->w1.heap[b]?=w.heap[b]?)(hs:w.heap.size<=w1.heap.size)(h1: ∀b,S1 b->b<w1.heap.size)(VC:w1.os=w.os)(ht:w1.tape=w.tape)(ho:w1.output=w.output):
  eG (E.plus w S1) h w1/\Ext E h w (E.plus w S1) h w1:=by
   have hx:Ext E h w (E.plus w S1) h w1:=⟨⟨fun b hb=>.inl hb,fun b hb=>hb.elim .inl fun h=>.inr (.inr h.1),fun b hb _=>hw b hb,fun id sl hm=>.inl hm,fun b hb=>.inl hb,aah _,hs,VC,ht,ho⟩,fun _ _ h=>h⟩;refine⟨⟨fun id o sl dm hm=>(s.obj id o sl dm hm).mono (fun a v hr=>hr.ext hx s) fun b hb=>hw b (s.lt b ⟨id,sl,hm,hb⟩),s.inj,fun b hb hS=>?_,fun b hb=>abc (s.lt b hb) hs,fun b hb=>?_⟩,hx⟩
   ·rcases hS with h|⟨h,_⟩
    ·exact s.nS b hb h
    ·have:=s.lt b hb;omega
   ·rcases hb with h|⟨_,h⟩
    ·exact abc (s.pM b h) hs
    ·exact h1 b h
theorem mI(s:eG E h w){S':Nat->Prop}(hS: ∀b,E.S b->S' b)(SR: ∀id o sl b,h[id]?=some o->E.m id=some sl->sl.Da=some b->S' b){as as':List af}{vs:Array Value}(hl:dc h as=some as')(hr:hH E w as vs):
  hH (Env.bare S') w as' vs:=by
   obtain⟨h1,h2⟩:=iO hl;refine⟨by rw[<-h1];exact hr.1,fun i c v hc hv=>?_⟩;obtain⟨c0,vW⟩:=bP (l:=as) (i:=i) (by rw[h1];exact(aag.1 hc).1);exact .fJ (kX s hS SR _ _ _ _ (h2 i c0 c vW hc) (hr.2 i c0 v vW hv))
theorem PO{S:Nat->Prop}{w1:World}{E1:Env}{v:af}{u:Value}(hs:v.Sz=true)(hr:de E1 w1 v u):fD S w1 v u:=by
 cases v<;>simp only[af.Sz]at hs<;>try(exact hr.closed hs S w1)
 rename_i vs;obtain⟨us,rfl,h1,h2⟩:=hr.SE;exact .eT vs us h1 fun i c v hc hv=>(h2 i c v hc hv).closed (aaj.1 hs c (aaq hc)) S w1
def XY(E:Env)(h H:aG)(w:World)(r:ef):Ending->World->Prop
 | .returned u,w1=>∃v S1,r= .ret v h/\eG (E.plus w S1) H w1/\Ext E H w (E.plus w S1) H w1/\de (E.plus w S1) w1 v u
 | .panicked chain,w1=>∃v S1 u,r= .jI v h/\chain=[{v:=u,recovered:=false}]/\eG (E.plus w S1) H w1/\Ext E H w (E.plus w S1) H w1/\de (E.plus w S1) w1 v u
 | .outgrown,_=>False
theorem yK{cf:eP}{C:q0}{H:aG}(hC:Sound cf C){f:FuncId}(hm:cf.M f= .P){args:List af}{r:ef}{vs:Array Value}(hc:cj cf C f args h=some r)(hb:ia cf.P f=true)(hp:h <+: H)(sH:eG E H w)(hg:ug cf.G E.S w)(hr:hH E w args vs):
  Calls cf.P f vs w (XY E h H w r):=by
   have s:eG E h w:=sH.sub hp;unfold cj at hc;simp only[hm]at hc;have s0:eG E [] w:=s.sub List.nil_prefix
   cases hs:dc [] args with
   |some as=>
    simp only[hs]at hc;have PQ:hH (Env.bare E.S) w as vs:=mI s0 (fun _ h=>h) (fun id o sl b ho=>by simp at ho) hs hr
    cases hq:C f as []with
    |none=>simp[hq]at hc
    |some q=>
     simp only[hq]at hc;refine Calls.mono (hC f as [] q hq (Env.bare E.S) w vs hb (eG.bare s.pM) (fun _ _=>rfl) hg PQ) fun e w1 he=>?_
     have back: ∀(v v':af)(u:Value)(h1:aG)(E1:Env),eG E1 h1 w1->Full E1 h1->Ext (Env.bare E.S) [] w E1 h1 w1->de E1 w1 v u->snap h1 v=some v'-> ∃S1,eG (E.plus w S1) H w1/\Ext E H w (E.plus w S1) H w1/\de (E.plus w S1) w1 v' u:=by
      intro v v' u h1 E1 s1 _ x1 r1 oG;have SS:=kX s1 (S':=fun b=>E1.S b∨E1.im b) (fun _ h=>.inl h) (fun id o sl b _ hm hb=>.inr ⟨id,_,hm,hb⟩) _ _ _ _ oG r1;obtain⟨p1,p2⟩:=sH.plus (w1:=w1) (S1:=fun b=>E1.S b∨E1.im b) (fun b hb=>x1.mem b hb Env.gC) x1.size (fun b hb=>hb.elim (s1.pM b) (s1.lt b)) x1.os x1.tape x1.output;refine⟨_,p1,p2,.fJ (SS.mono (fun b hb=>?_) fun _ _=>rfl)⟩;rcases hb with h2|h2
      ·rcases x1.SN b h2 with h3|h3|h3
       ·exact .inl h3
       ·exact absurd h3 Env.gC
       ·exact .inr ⟨h3,.inl h2⟩
      ·rcases x1.new b h2 with h3|h3
       ·exact absurd h3 Env.gC
       ·exact .inr ⟨h3,.inr h2⟩
     cases e with
     |returned u=>
      obtain⟨v,h1,E1,rfl,s1,f1,x1,r1⟩:=he;simp only[nM]at hc;obtain⟨v',qy,rfl⟩:=hc;obtain⟨S1,g1,g3,g4⟩:=back v v' u h1 E1 s1 f1 x1 r1 qy
      exact⟨v',S1,rfl,g1,g3,g4⟩
     |panicked chain=>
      obtain⟨v,h1,E1,u,rfl,rfl,s1,f1,x1,r1⟩:=he;simp only[nM]at hc;obtain⟨v',qy,rfl⟩:=hc;obtain⟨S1,g1,g3,g4⟩:=back v v' u h1 E1 s1 f1 x1 r1 qy
      exact⟨v',S1,u,rfl,rfl,g1,g3,g4⟩
     |outgrown=>exact he.elim
   |none=>
    simp only[hs]at hc
    cases sa:dc h args with
    |none=>simp[sa]at hc
    |some as=>
     simp only[sa]at hc;have PQ:hH (Env.bare fun b=>E.S b∨E.im b) w as vs:=mI s (fun _ h=>.inl h) (fun id o sl b _ hm hb=>.inr ⟨id,_,hm,hb⟩) sa hr
     cases hq:C f as []with
     |none=>simp[hq]at hc
     |some q=>
      cases q with
      |jI v h1=>simp[hq]at hc
      |ret v h1=>
       simp only[hq]at hc;split at hc
       ·rename_i sc;cases hc
        refine Calls.mono (hC f as [] _ hq (Env.bare fun b=>E.S b∨E.im b) w vs hb (eG.bare fun b hb=>hb.elim (s.pM b) (s.lt b)) (fun _ _=>rfl) (hg.mono (fun _ h=>.inl h) fun _ _=>rfl) PQ) fun e w1 he=>?_
        cases e with
        |returned u=>
         obtain⟨v2,h2,E1,Cz,s1,f1,x1,r1⟩:=he;cases Cz
         obtain⟨p1,p2⟩:=sH.plus (w1:=w1) (S1:=fun _=>False) (fun b hb=>x1.mem b hb Env.gC) x1.size (fun b hb=>hb.elim) x1.os x1.tape x1.output
         exact⟨v,_,rfl,p1,p2,.fJ (PO sc r1)⟩
        |panicked chain=>
         obtain⟨v2,h2,E1,u,Cz,_⟩:=he
         cases Cz
        |outgrown=>exact he.elim
       ·cases hc
theorem vY{E1 E':Env}{w1:World}{n:Nat}(hm: ∀id s,E1.m id=some s->E'.m (id+n)=some s∨E'.m (id+n)=some .dead){c:af}{v:Value}(hc:c.iq=true)(hr:de E1 w1 c v):de E' w1 (nB n c) v:=by
 cases c<;>simp only[af.iq]at hc<;>first
  |(exact .fJ (hr.closed hc _ _))
  |(cases hc;done)
  |skip
 case own id st len=>
  cases hr with
  |fJ h=>cases h
  |own _ _ _ a cap b jB sz ja gM hq=>
   rcases hm _ _ ja with h|h
   ·exact .own (id+n) st len a cap b jB sz h gM hq
   ·exact .sE (id+n) st len a cap h gM
  |sE _ _ _ a cap ja gM=>
   rcases hm _ _ ja with h|h<;>exact .sE (id+n) st len a cap h gM
 case nil=>
  cases hr with
  |fJ h=>cases h with|nil a=>exact .fJ (.nil a)
 case sl xs=>
  cases xs with
  |cons y ys=>cases hc
  |nil=>
   cases hr with
   |fJ h=>
    cases h with
    |sl _ a cap s b o vs h1 h2 h3 h4 h5=>exact .fJ (.sl [] a cap s b o vs h1 h2 (by simp) (by simp) (by simp))
theorem vZ{E1 E':Env}{w1:World}{n:Nat}(hm: ∀id s,E1.m id=some s->E'.m (id+n)=some s∨E'.m (id+n)=some .dead){c:af}{v:Value}(hc:(match c with| .agg ds=>ds.all af.iq|c=>c.iq)=true)(hr:de E1 w1 c v):de E' w1 (jj n c) v:=by
 cases c
 case agg cs=>
  obtain⟨vs,rfl,h1,h2⟩:=hr.dE;simp only at hc;refine .agg _ vs (by simpa using h1) fun i c v hi hv=>?_;rw[aba,nM]at hi;obtain⟨c0,vW,rfl⟩:=hi;exact vY hm (aaj.1 hc c0 (aaq vW)) (h2 i c0 v vW hv)
 all_goals exact vY hm hc hr
theorem Nu{c:af}(h:c.clean=true)(h1: ∀cs,c≠ .agg cs)(h2: ∀cs,c≠ .eT cs):c.iq=true:=by
 cases c<;>first|exact h|exact absurd rfl (h1 _)|exact absurd rfl (h2 _)
theorem JX(n:Nat){c:af}(h1: ∀cs,c≠ .agg cs)(h2: ∀cs,c≠ .eT cs):q8 n c=nB n c:=by
 cases c<;>first|rfl|exact absurd rfl (h1 _)|exact absurd rfl (h2 _)
theorem Nv{E1 E':Env}{w1:World}{n:Nat}(hm: ∀id s,E1.m id=some s->E'.m (id+n)=some s∨E'.m (id+n)=some .dead){c:af}{v:Value}(hc:c.clean=true)(hr:de E1 w1 c v):de E' w1 (q8 n c) v:=by
 by_cases h1: ∃cs,c= .agg cs
 ·obtain⟨cs,rfl⟩:=h1;exact vZ (c:=.agg cs) hm hc hr
 by_cases h2: ∃cs,c= .eT cs
 ·obtain⟨cs,rfl⟩:=h2;obtain⟨vs,rfl,h1,h2⟩:=hr.SE;simp only[af.clean]at hc;refine .eT _ vs (by simpa using h1) fun i c v hi hv=>?_;rw[aba,nM]at hi;obtain⟨c0,vW,rfl⟩:=hi;exact vZ hm (aaj.1 hc c0 (aaq vW)) (h2 i c0 v vW hv)
 have g1: ∀cs,c≠ .agg cs:=fun cs e=>h1 ⟨cs,e⟩;have g2: ∀cs,c≠ .eT cs:=fun cs e=>h2 ⟨cs,e⟩;rw[JX n g1 g2];exact vY hm (Nu hc g1 g2) hr
theorem nU{n:Nat}{c:af}(hc:(match c with| .agg ds=>ds.all af.iq|c=>c.iq)=true):(jj n c).cells=c.cells.map (nB n):=by
 cases c<;>first|rfl|(simp only[af.iq,af.isScalar]at hc;cases hc)
theorem JY{c:af}(hc:(match c with| .agg ds=>ds.all af.iq|c=>c.iq)=true){j:Nat}{d:af}(hj:c.cells[j]?=some d):d.iq=true:=by
 cases c
 case agg cs=>exact aaj.1 hc d (aaq hj)
 all_goals
  cases j with
  |zero=>simp[af.cells]at hj;subst hj;exact hc
  |succ j=>simp[af.cells]at hj
def Env.VJ(E E1:Env)(n m:Nat)(h1:aG):Env:=
 ⟨fun k=>if k<n then E.m k else if k<n+m then(match E1.m (k-n)with
  |some s=>match h1[k-n]? with
   |some o=>if o.keeps then some s else some .dead
   |none=>some .dead
  |none=>none)else E.m k,E.S⟩
def XZ(E:Env)(h H:aG)(w:World)(r:ef):Ending->World->Prop
 | .returned u,w1=>∃v h' E',r= .ret v h'/\eG E' H w1/\ri E H w E' H w1/\de E' w1 v u/\ ∀k,E'.m k=E.m k∨(h.length<=k/\k<h'.length)
 |_,_=>False
theorem yL{cf:eP}{C:q0}{H:aG}(hC:Sound cf C){f:FuncId}(hm:cf.M f= .N){args:List af}{v:af}{h':aG}{vs:Array Value}(hc:cj cf C f args h=some (.ret v h'))(hb:ia cf.P f=true)(hp:h' <+: H)(hn: ∀k,h.length<=k->k<h'.length->E.m k=none)
  (sH:eG E H w) (hg:ug cf.G E.S w) (hr:hH E w args vs):h <+: h'/\Calls cf.P f vs w (XZ E h H w (.ret v h')):=by
   unfold cj at hc;simp only[hm]at hc
   cases sa:dc h args with
   |none=>simp[sa]at hc
   |some as=>
   simp only[sa]at hc
   cases hq:C f as []with
   |none=>simp[hq]at hc
   |some q=>
   cases q with
   |jI v h1=>simp[hq]at hc
   |ret v1 h1=>
   simp only[hq]at hc;split at hc
   ·rename_i jM;cases hc
    refine⟨List.prefix_append _ _,?_⟩;have hph:h <+: H:=(List.prefix_append _ _).trans hp;have s:eG E h w:=sH.sub hph;have PQ:hH (Env.bare fun b=>E.S b∨E.im b) w as vs:=mI s (fun _ h=>.inl h) (fun id o sl b _ hm hb=>.inr ⟨id,_,hm,hb⟩) sa hr;refine Calls.mono (hC f as [] _ hq (Env.bare fun b=>E.S b∨E.im b) w vs hb (eG.bare fun b hb=>hb.elim (s.pM b) (s.lt b)) (fun _ _=>rfl) (hg.mono (fun _ h=>.inl h) fun _ _=>rfl) PQ) fun e w1 he=>?_
    cases e with
    |panicked chain=>obtain⟨v2,h2,E1,u,Cz,_⟩:=he;cases Cz
    |outgrown=>exact he.elim
    |returned u=>
     obtain⟨v2,h2,E1,Cz,s1,f1,x1,r1⟩:=he;cases Cz
     have hlen:(h++h1.map (dH.keep h.length)).length=h.length+h1.length:=by simp
     rw[hlen]at hn;have lT: ∀b,b<w.heap.size->w1.heap[b]?=w.heap[b]?:=fun b hb=>x1.mem b hb Env.gC;obtain⟨E',ZE⟩: ∃E',E'=E.VJ E1 h.length h1.length h1:=⟨_,rfl⟩
     have m1: ∀k,k<h.length∨h.length+h1.length<=k->E'.m k=E.m k:=fun k hk=>by
      subst ZE;show(if k<h.length then E.m k else if k<h.length+h1.length then _ else E.m k)=_
      by_cases e:k<h.length
      ·rw[if_pos e]
      ·rw[if_neg e,if_neg (by omega)]
     have m2: ∀k s,k<h1.length->E1.m k=some s->(∃o,h1[k]?=some o/\((o.keeps=true/\E'.m (k+h.length)=some s)∨(o.keeps=false/\E'.m (k+h.length)=some .dead))):=fun k sl hk hs=>by
      subst ZE;obtain⟨o,ho⟩:=bP hk;refine⟨o,ho,?_⟩
      have:(E.VJ E1 h.length h1.length h1).m (k+h.length)=if o.keeps then some sl else some .dead:=by
       show(if k+h.length<h.length then _ else if k+h.length<h.length+h1.length then _ else _)=_;rw[if_neg (by omega),if_pos (by omega),Nat.add_sub_cancel,hs];simp only[ho]
      rw[this];cases o.keeps
      ·exact .inr ⟨rfl,rfl⟩
      ·exact .inl ⟨rfl,rfl⟩
     have m3: ∀k sl,h.length<=k->k<h.length+h1.length->E'.m k=some sl-> ∃s1 o,E1.m (k-h.length)=some s1/\h1[k-h.length]?=some o/\((o.keeps=true/\sl=s1)∨(o.keeps=false/\sl= .dead)):=fun k sl eg jS hs=>by
      cases he1:E1.m (k-h.length)with
      |none=>
       exfalso;subst ZE
       have:(E.VJ E1 h.length h1.length h1).m k=none:=by
        show(if k<h.length then _ else if k<h.length+h1.length then _ else _)=_;rw[if_neg (by omega),if_pos jS,he1]
       rw[this]at hs;cases hs
      |some s1=>
       obtain⟨o,ho,hq⟩:=m2 (k-h.length) s1 (by omega) he1;rw[show k-h.length+h.length=k by omega]at hq;refine⟨s1,o,rfl,ho,?_⟩;rcases hq with⟨h1,h2⟩|⟨h1,h2⟩
       ·rw[h2]at hs;cases hs;exact .inl ⟨h1,rfl⟩
       ·rw[h2]at hs;cases hs;exact .inr ⟨h1,rfl⟩
     have hmE: ∀id sl,E1.m id=some sl->E'.m (id+h.length)=some sl∨E'.m (id+h.length)=some .dead:=fun id sl hs=>by
      by_cases dm:id<h1.length
      ·obtain⟨o,_,hq⟩:=m2 id sl dm hs;exact hq.elim (fun h=>.inl h.2) fun h=>.inr h.2
      ·rw[f1 id (by omega)]at hs;cases hs
     have hS: ∀b,E'.S b↔E.S b:=fun b=>by subst ZE;exact Iff.rfl
     have UE: ∀k sl,E.m k=some sl->E'.m k=some sl:=fun k sl hs=>by
      by_cases hk:k<h.length∨h.length+h1.length<=k
      ·rw[m1 k hk];exact hs
      ·rw[hn k (by omega) (by omega)]at hs;cases hs
     have um: ∀a v,de E w a v->de E' w1 a v:=fun a v hr=>hr.mono (fun b hb=>(hS b).2 hb) (fun b hb=>lT b (sH.pM b hb)) fun id sl hs=>.inl (UE id sl hs);have X0: ∀b,E1.im b->w.heap.size<=b/\b<w1.heap.size:=fun b hb=>⟨(x1.new b hb).elim (fun h=>absurd h Env.gC) id,s1.lt b hb⟩
     have JU: ∀k sl b,E'.m k=some sl->sl.Da=some b->(k<h.length∨h.length+h1.length<=k)/\E.m k=some sl∨(h.length<=k/\k<h.length+h1.length)/\E1.m (k-h.length)=some sl:=fun k sl b hs hb=>by
      by_cases hk:k<h.length∨h.length+h1.length<=k
      ·rw[m1 k hk]at hs;exact .inl ⟨hk,hs⟩
      ·obtain⟨s1',o,g1,g2,g3⟩:=m3 k sl (by omega) (by omega) hs;rcases g3 with⟨_,rfl⟩|⟨_,rfl⟩
       ·exact .inr ⟨by omega,g1⟩
       ·cases hb
     refine⟨q8 h.length v1,_,E',rfl,⟨?_,?_,?_,?_,?_⟩,⟨fun b hb=>(hS b).2 hb,fun b hb=>.inl ((hS b).1 hb),fun b hb _=>lT b hb,fun id sl hs=>.inl (UE id sl hs),fun b hb=>?_,aah _,x1.size,x1.os,x1.tape,x1.output⟩,Nv hmE jM r1,fun k=>?_⟩
     ·intro id o sl ho hs
      by_cases hk:id<h.length∨h.length+h1.length<=id
      ·rw[m1 id hk]at hs;exact(sH.obj id o sl ho hs).mono um fun b hb=>lT b (sH.lt b ⟨id,sl,hs,hb⟩)
      ·obtain⟨s1',o1,g1,g2,g3⟩:=m3 id sl (by omega) (by omega) hs
       have hoo:o=dH.keep h.length o1:=by
        obtain⟨t,rfl⟩:=hp;rw[aaN (by simp;omega),aaQ (by omega),aba,g2]at ho;simpa using ho.symm
       subst hoo;rcases g3 with⟨g3,rfl⟩|⟨g3,rfl⟩
       ·have JZ:=s1.obj _ _ _ g2 g1;cases o1<;>simp only[dH.keeps]at g3<;>try(cases g3;done)
        rename_i sz es;have Xk:dH.keep h.length (.arr sz es)= .arr sz (es.map (jj h.length)):=by simp only[dH.keep,dH.keeps,g3]
        rw[Xk];cases sl<;>simp only[eO]at JZ⊢ <;>try exact JZ
        obtain⟨rfl,eQ,hle,jP,gN⟩:=JZ;refine⟨rfl,eQ,by simpa using hle,fun x hx=>?_,fun i x hx j c hj=>?_⟩
        ·obtain⟨y,hy,rfl⟩:=aaO.1 hx;rw[nU (aaj.1 g3 y hy),aat];exact jP y hy
        ·rw[aba,nM]at hx;obtain⟨y,hy,rfl⟩:=hx;have hyc:=aaj.1 g3 y (aaq hy);rw[nU hyc,aba,nM]at hj;obtain⟨d,hd,rfl⟩:=hj;obtain⟨u',k1,k2⟩:=gN i y hy j d hd;exact⟨u',k1,vY hmE (JY hyc hd) k2⟩
       ·have Xk:dH.keep h.length o1= .dead:=by cases o1<;>simp[dH.keep,g3]
        rw[Xk];simp only[eO]
     ·intro i j si sj b hi hj sF xm;rcases JU i si b hi sF with⟨ki,ei⟩|⟨ki,ei⟩<;>rcases JU j sj b hj xm with⟨kj,ej⟩|⟨kj,ej⟩
      ·exact sH.inj i j si sj b ei ej sF xm
      ·exfalso;have a1:=sH.lt b ⟨i,si,ei,sF⟩;have a2:=(X0 b ⟨_,sj,ej,xm⟩).1;omega
      ·exfalso;have a1:=sH.lt b ⟨j,sj,ej,xm⟩;have a2:=(X0 b ⟨_,si,ei,sF⟩).1;omega
      ·have:=s1.inj _ _ si sj b ei ej sF xm;omega
     ·intro b hb Xb;obtain⟨k,sl,hs,AE⟩:=hb;have X4:=(hS b).1 Xb;rcases JU k sl b hs AE with⟨_,e⟩|⟨_,e⟩
      ·exact sH.nS b ⟨k,sl,e,AE⟩ X4
      ·have a1:=(X0 b ⟨_,sl,e,AE⟩).1;have a2:=sH.pM b X4;omega
     ·intro b hb;obtain⟨k,sl,hs,AE⟩:=hb;rcases JU k sl b hs AE with⟨_,e⟩|⟨_,e⟩
      ·exact abc (sH.lt b ⟨k,sl,e,AE⟩) x1.size
      ·exact(X0 b ⟨_,sl,e,AE⟩).2
     ·intro b hb;exact abc (sH.pM b ((hS b).1 hb)) x1.size
     ·obtain⟨k,sl,hs,AE⟩:=hb;rcases JU k sl b hs AE with⟨_,e⟩|⟨_,e⟩
      ·exact .inl ⟨k,sl,e,AE⟩
      ·exact .inr (X0 b ⟨_,sl,e,AE⟩).1
     ·by_cases hk:k<h.length∨h.length+h1.length<=k
      ·exact .inl (m1 k hk)
      ·right;rw[hlen];omega
   ·cases hc
theorem GP{S:Nat->Prop}{w1:World}{E1:Env}{a:af}{v:Value}(ha:a.Pv=true)(hr:de E1 w1 a v):fD E1.S w1 a v:=by
 cases hr with
 |fJ h=>exact h
 |_=>cases ha
theorem GQ{a:af}(ha:a.Pw=true){j:Nat}{c:af}(hj:a.cells[j]?=some c):c.Pv=true:=by
 cases a
 case agg cs=>exact aaj.1 ha c (aaq hj)
 all_goals
  cases j with
  |zero=>simp[af.cells]at hj;subst hj;exact ha
  |succ j=>simp[af.cells]at hj
def Env.rows(E:Env)(h:aG):Env:=⟨fun id=>match h[id]? with
 |some (.arr _ _)=>E.m id
 |some .dead=>(E.m id).map fun _=>.dead
 |_=>none,E.S⟩
theorem Dl{a:af}{v:Value}(ha:a.LX h=true)(hr:de E w a v):de (E.rows h) w a v:=by
 cases a<;>simp only[af.LX]at ha<;>try(cases ha;done)
 case own id st len=>
  have hm: ∀s,E.m id=some s->(E.rows h).m id=some s∨(E.rows h).m id=some .dead:=by
   intro s hs
   show(match h[id]? with
    |some (.arr _ _)=>E.m id
    |some .dead=>(E.m id).map fun _=>Slot.dead
    |_=>none)=_∨(match h[id]? with
    |some (.arr _ _)=>E.m id
    |some .dead=>(E.m id).map fun _=>Slot.dead
    |_=>none)=_
   split at ha
   ·rename_i ho;simp only[ho];exact .inl hs
   ·rename_i ho;simp only[ho,hs];exact .inr rfl
   ·cases ha
  cases hr with
  |fJ h=>cases h
  |own _ _ _ a cap b jB sz ja gM hq=>
   rcases hm _ ja with g|g
   ·exact .own id st len a cap b jB sz g gM hq
   ·exact .sE id st len a cap g gM
  |sE _ _ _ a cap ja gM=>exact .sE id st len a cap ((hm _ ja).elim (fun g=>g) fun g=>g) gM
 all_goals exact .fJ (GP (E1:=E) (S:=E.S) (by rfl) hr)
theorem PR{a:af}{v:Value}(ha:a.Vp h=true)(hr:de E w a v):de (E.rows h) w a v:=by
 cases a
 case agg cs=>
  obtain⟨vs,rfl,h1,h2⟩:=hr.dE;exact .agg cs vs h1 fun i c v hc hv=>Dl (aaj.1 ha c (aaq hc)) (h2 i c v hc hv)
 all_goals exact Dl ha hr
theorem PS{id:Nat}{s:Slot}(hm:(E.rows h).m id=some s):(s= .dead/\h[id]?=some .dead)∨(E.m id=some s/\ ∃sz es,h[id]?=some (.arr sz es)):=by
 have ja:(match h[id]? with
  |some (.arr _ _)=>E.m id
  |some .dead=>(E.m id).map fun _=>Slot.dead
  |_=>none)=some s:=hm
 split at ja
 ·rename_i ho;exact .inr ⟨ja,_,_,ho⟩
 ·rename_i ho;simp only[nM]at ja;obtain⟨_,_,rfl⟩:=ja;exact .inl ⟨rfl,ho⟩
 ·cases ja
theorem AH{id:Nat}{s:Slot}{b:Nat}(hm:(E.rows h).m id=some s)(hb:s.Da=some b):E.m id=some s/\ ∃sz es,h[id]?=some (.arr sz es):=by
 rcases PS hm with⟨rfl,_⟩|h
 ·cases hb
 ·exact h
theorem eG.rows(s:eG E h w)(hp:h.all dH.re=true):eG (E.rows h) h w:=by
 have im: ∀b,(E.rows h).im b->E.im b:=fun b⟨id,sl,hm,hb⟩=>⟨id,sl,(AH hm hb).1,hb⟩;refine⟨fun id o sl ho hm=>?_,fun i j si sj b hi hj sF xm=>s.inj i j si sj b (AH hi sF).1 (AH hj xm).1 sF xm,fun b hb=>s.nS b (im b hb),fun b hb=>s.lt b (im b hb),s.pM⟩;rcases PS hm with⟨_,hk⟩|⟨ja,sz,es,hk⟩
 ·rw[ho]at hk;cases hk
  simp only[eO]
 ·have JZ:=s.obj id o sl ho ja;rw[ho]at hk;cases hk
  have vD:=aaj.1 hp _ (aaq ho);simp only[dH.re]at vD;cases sl<;>simp only[eO]at JZ⊢ <;>try exact JZ
  obtain⟨h1,h2,h3,h4,h5⟩:=JZ;refine⟨h1,h2,h3,h4,fun i x hx j c hj=>?_⟩;obtain⟨v,hv,hr⟩:=h5 i x hx j c hj;exact⟨v,hv,.fJ (GP (E1:=E) (S:=E.S) (GQ (aaj.1 vD x (aaq hx)) hj) hr)⟩
def Env.aas(E:Env)(h:aG)(S1:Nat->Prop):Env:=⟨fun id=>match h[id]? with
 |some (.arr _ _)=>(E.m id).map fun _=>.dead
 |_=>E.m id,S1⟩
theorem ru{cf:eP}{C:q0}(hC:Sound cf C){f:FuncId}{args as:List af}{v:af}{h1:aG}{r:ef}{vs:Array Value}(hs:dc [] args=some as)(hq:C f as []=some (.ret v h1))(hv: ∃a,snap h1 v=some a/\ef.ret a h=r)(hb:ia cf.P f=true)(s:eG E h w)(hf:Full E h)(hg:ug cf.G E.S w)(hr:hH E w args vs):
  Calls cf.P f vs w (vX E h w r):=by
   have s0:eG E [] w:=s.sub List.nil_prefix;have PQ:hH (Env.bare E.S) w as vs:=mI s0 (fun _ h=>h) (fun id o sl b ho=>by simp at ho) hs hr;obtain⟨v',qy,rfl⟩:=hv;refine Calls.mono (hC f as [] _ hq (Env.bare E.S) w vs hb (eG.bare s.pM) (fun _ _=>rfl) hg PQ) fun e w1 he=>?_
   cases e with
   |panicked chain=>obtain⟨_,_,_,_,he,_⟩:=he;cases he
   |outgrown=>exact he.elim
   |returned u=>
    obtain⟨v2,h2,E1,Cz,s1,f1,x1,r1⟩:=he;cases Cz
    have SS:=kX s1 (S':=fun b=>E1.S b∨E1.im b) (fun _ h=>.inl h) (fun id o sl b _ hm hb=>.inr ⟨id,_,hm,hb⟩) _ _ _ _ qy r1;obtain⟨p1,p2⟩:=s.plus (w1:=w1) (S1:=fun b=>E1.S b∨E1.im b) (fun b hb=>x1.mem b hb Env.gC) x1.size (fun b hb=>hb.elim (s1.pM b) (s1.lt b)) x1.os x1.tape x1.output;refine⟨v',h,_,rfl,p1,hf,p2,.fJ (SS.mono (fun b hb=>?_) fun _ _=>rfl)⟩;rcases hb with h2|h2
    ·rcases x1.SN b h2 with h3|h3|h3
     ·exact .inl h3
     ·exact absurd h3 Env.gC
     ·exact .inr ⟨h3,.inl h2⟩
    ·rcases x1.new b h2 with h3|h3
     ·exact absurd h3 Env.gC
     ·exact .inr ⟨h3,.inr h2⟩
theorem GR{cf:eP}{C:q0}(hC:Sound cf C){f:FuncId}(hm:cf.M f= .K){args:List af}{r:ef}{vs:Array Value}(hc:cj cf C f args h=some r)(hb:ia cf.P f=true)(s:eG E h w)(hf:Full E h)(hg:ug cf.G E.S w)(hr:hH E w args vs):
  Calls cf.P f vs w (vX E h w r):=by
   unfold cj at hc;simp only[hm]at hc
   cases hs:dc [] args with
   |some as=>
    simp only[hs]at hc
    cases hq:C f as []with
    |none=>simp[hq]at hc
    |some q=>
    cases q with
    |jI v h1=>simp[hq]at hc
    |ret v h1=>simp only[hq,nM]at hc;exact ru hC hs hq hc hb s hf hg hr
   |none=>
    simp only[hs]at hc;split at hc
    ·rename_i hk;simp only[xz]at hk
     cases sa:dc h args with
     |none=>simp[sa]at hc
     |some as=>
     simp only[sa]at hc;have sR:=s.rows hk.2;have hrR:hH (E.rows h) w args vs:=⟨hr.1,fun i c v h1 h2=>PR (aaj.1 hk.1 c (aaq h1)) (hr.2 i c v h1 h2)⟩;have PQ:hH (Env.bare fun b=>E.S b∨(E.rows h).im b) w as vs:=mI sR (fun _ h=>.inl h) (fun id o sl b _ hm hb=>.inr ⟨id,_,hm,hb⟩) sa hrR
     cases hq:C f as []with
     |none=>simp[hq]at hc
     |some q=>
     cases q with
     |jI v h1=>simp[hq]at hc
     |ret v h1=>
      simp only[hq,nM]at hc;obtain⟨v',qy,rfl⟩:=hc;refine Calls.mono (hC f as [] _ hq (Env.bare fun b=>E.S b∨(E.rows h).im b) w vs hb (eG.bare fun b hb=>hb.elim (s.pM b) (sR.lt b)) (fun _ _=>rfl) (hg.mono (fun _ h=>.inl h) fun _ _=>rfl) PQ) fun e w1 he=>?_
      cases e with
      |panicked chain=>obtain⟨_,_,_,_,he,_⟩:=he;cases he
      |outgrown=>exact he.elim
      |returned u=>
       obtain⟨v2,h2,E1,Cz,s1,f1,x1,r1⟩:=he;cases Cz
       have SS:=kX s1 (S':=fun b=>E1.S b∨E1.im b) (fun _ h=>.inl h) (fun id o sl b _ hm hb=>.inr ⟨id,_,hm,hb⟩) _ _ _ _ qy r1;have lT: ∀b,b<w.heap.size->w1.heap[b]?=w.heap[b]?:=fun b hb=>x1.mem b hb Env.gC
       let E':Env:=E.aas h fun b=>E.S b∨(E.rows h).im b∨(w.heap.size<=b/\(E1.S b∨E1.im b))
       have imR: ∀b,(E.rows h).im b->E.im b:=fun b⟨id,sl,hm,hb⟩=>⟨id,sl,(AH hm hb).1,hb⟩
       have m1: ∀id sl,E.m id=some sl->E'.m id=some sl∨E'.m id=some .dead:=by
        intro id sl hs
        show(match h[id]? with
         |some (.arr _ _)=>(E.m id).map fun _=>Slot.dead
         |_=>E.m id)=_∨(match h[id]? with
         |some (.arr _ _)=>(E.m id).map fun _=>Slot.dead
         |_=>E.m id)=_
        split
        ·right;rw[hs];rfl
        ·left;exact hs
       have m2: ∀id sl b,E'.m id=some sl->sl.Da=some b->E.m id=some sl/\ ∀sz es,h[id]?≠some (.arr sz es):=by
        intro id sl b hs hb
        have Mh:(match h[id]? with
         |some (.arr _ _)=>(E.m id).map fun _=>Slot.dead
         |_=>E.m id)=some sl:=hs
        split at Mh
        ·simp only[nM]at Mh;obtain⟨_,_,rfl⟩:=Mh;cases hb
        ·rename_i PT;exact⟨Mh,fun sz es he=>PT _ _ he⟩
       have um: ∀a v,de E w a v->de E' w1 a v:=fun a v hr=>hr.mono (fun b hb=>Or.inl hb) (fun b hb=>lT b (s.pM b hb)) m1
       have JU: ∀b,E'.im b->E.im b/\ ¬(E.rows h).im b:=by
        rintro b ⟨id,sl,hs,AE⟩
        obtain⟨g1,g2⟩:=m2 id sl b hs AE;refine⟨⟨id,sl,g1,AE⟩,?_⟩
        rintro ⟨zS,sl2,aau,X5⟩
        obtain⟨g3,sz,es,g4⟩:=AH aau X5;have:=s.inj id zS sl sl2 b g1 g3 AE X5;subst this;exact g2 sz es g4
       refine⟨v',h.map dH.freeze,E',rfl,⟨fun id o sl ho hs=>?_,fun i j si sj b hi hj sF xm=>s.inj i j si sj b (m2 i si b hi sF).1 (m2 j sj b hj xm).1 sF xm,fun b hb hS=>?_,fun b hb=>abc (s.lt b (JU b hb).1) x1.size,fun b hb=>?_⟩,fun k hk=>?_,⟨⟨fun b hb=>Or.inl hb,fun b hb=>?_,fun b hb _=>lT b hb,m1,fun b hb=>.inl (JU b hb).1,by simp,x1.size,x1.os,x1.tape,x1.output⟩,fun k g1 g2=>?_⟩,.fJ (SS.mono (fun b hb=>?_) fun _ _=>rfl)⟩
       ·rw[aba,nM]at ho;obtain⟨o0,SU,rfl⟩:=ho
        have Mh:(match h[id]? with
         |some (.arr _ _)=>(E.m id).map fun _=>Slot.dead
         |_=>E.m id)=some sl:=hs
        cases o0 with
        |arr sz es=>simp only[dH.freeze,eO]
        |dead=>simp only[dH.freeze,eO]
        |_=>
         rw[SU]at Mh;exact(s.obj id _ sl SU Mh).mono um fun b hb=>lT b (s.lt b ⟨id,sl,Mh,hb⟩)
       ·rcases hS with h3|h3|⟨h3,_⟩
        ·exact s.nS b (JU b hb).1 h3
        ·exact(JU b hb).2 h3
        ·have:=s.lt b (JU b hb).1;omega
       ·rcases hb with h3|h3|⟨_,h3|h3⟩
        ·exact abc (s.pM b h3) x1.size
        ·exact abc (sR.lt b h3) x1.size
        ·exact s1.pM b h3
        ·exact s1.lt b h3
       ·have:h[k]?=none:=List.getElem?_eq_none (by simpa using hk)
        show(match h[k]? with
         |some (.arr _ _)=>(E.m k).map fun _=>Slot.dead
         |_=>E.m k)=none
        rw[this];exact hf k (by simpa using hk)
       ·rcases hb with h3|h3|⟨h3,_⟩
        ·exact .inl h3
        ·exact .inr (.inl (imR b h3))
        ·exact .inr (.inr h3)
       ·show(match h[k]? with
         |some (.arr _ _)=>(E.m k).map fun _=>Slot.dead
         |_=>E.m k)=none
        rw[g2];split<;>rfl
       ·rcases hb with h2|h2
        ·rcases x1.SN b h2 with h3|h3|h3
         ·rcases h3 with h3|h3
          ·exact Or.inl h3
          ·exact Or.inr (.inl h3)
         ·exact absurd h3 Env.gC
         ·exact Or.inr (.inr ⟨h3,.inl h2⟩)
        ·rcases x1.new b h2 with h3|h3
         ·exact absurd h3 Env.gC
         ·exact Or.inr (.inr ⟨h3,.inr h2⟩)
    ·cases hc
def Env.kill(E:Env)(p:Nat->Bool)(S':Nat->Prop):Env:=⟨fun id=>bif p id then(E.m id).map fun _=>.dead else E.m id,S'⟩
theorem PU{p:Nat->Bool}{S':Nat->Prop}{id:Nat}{s:Slot}(hm:(E.kill p S').m id=some s):(p id=true/\s= .dead)∨(p id=false/\E.m id=some s):=by
 have ja:(bif p id then(E.m id).map fun _=>Slot.dead else E.m id)=some s:=hm
 cases hp:p id with
 |true=>
  rw[hp,cond_true,nM]at ja;obtain⟨_,_,rfl⟩:=ja
  exact .inl ⟨rfl,rfl⟩
 |false=>rw[hp,cond_false]at ja;exact .inr ⟨rfl,ja⟩
theorem qi{p:Nat->Bool}{S':Nat->Prop}{id:Nat}{s:Slot}{b:Nat}(hm:(E.kill p S').m id=some s)(hb:s.Da=some b):p id=false/\E.m id=some s:=by
 rcases PU hm with⟨_,rfl⟩|h
 ·cases hb
 ·exact h
theorem v7{p:Nat->Bool}{S':Nat->Prop}{id:Nat}{s:Slot}(hm:E.m id=some s):(E.kill p S').m id=some s∨(E.kill p S').m id=some .dead:=by
 show(bif p id then(E.m id).map fun _=>Slot.dead else E.m id)=_∨(bif p id then(E.m id).map fun _=>Slot.dead else E.m id)=_;rw[hm];cases p id
 ·exact .inl rfl
 ·exact .inr rfl
theorem tL{p:Nat->Bool}{S':Nat->Prop}{id:Nat}(hm:E.m id=none):(E.kill p S').m id=none:=by
 show(bif p id then(E.m id).map fun _=>Slot.dead else E.m id)=none;rw[hm];cases p id<;>rfl
theorem de.uL{p:Nat->Bool}{S':Nat->Prop}{a:af}{v:Value}(hS: ∀b,E.S b->S' b)(hr:de E w a v):de (E.kill p S') w a v:=
 de.mono (E:=E) (E':=E.kill p S') hS (fun _ _=>rfl) (fun _ _ hm=>v7 hm) hr
theorem eG.kill{w1:World}{p:Nat->Bool}{S':Nat->Prop}(s:eG E h w)(hw: ∀b,b<w.heap.size->w1.heap[b]?=w.heap[b]?)(hz:w.heap.size<=w1.heap.size)(hS: ∀b,E.S b->S' b)
  (hn: ∀b,S' b->E.S b∨(∃id sl,p id=true/\E.m id=some sl/\sl.Da=some b)∨w.heap.size<=b) (fK: ∀b,S' b->b<w1.heap.size):eG (E.kill p S') (gh p 0 h) w1:=by
   have um: ∀a v,de E w a v->de (E.kill p S') w1 a v:=fun a v hr=>hr.mono hS (fun b hb=>hw b (s.pM b hb)) fun id sl hm=>v7 hm;refine⟨fun id o sl ho hm=>?_,fun i j si sj b hi hj sF xm=>s.inj i j si sj b (qi hi sF).2 (qi hj xm).2 sF xm,fun b⟨id,sl,hm,hb⟩ hS=>?_,fun b⟨id,sl,hm,hb⟩=>abc (s.lt b ⟨id,sl,(qi hm hb).2,hb⟩) hz,fK⟩
   ·rw[tK,nM]at ho;obtain⟨o0,SU,rfl⟩:=ho;rw[aaK];rcases PU hm with⟨hp,_⟩|⟨hp,ja⟩
    ·rw[hp];simp only[cond_true,eO]
    ·rw[hp];exact(s.obj id _ sl SU ja).mono um fun b hb=>hw b (s.lt b ⟨id,sl,ja,hb⟩)
   ·obtain⟨hp,ja⟩:=qi hm hb;rcases hn b hS with h1|⟨zS,sl2,Jv,Pa,Uy⟩|h1
    ·exact s.nS b ⟨id,sl,ja,hb⟩ h1
    ·have:=s.inj id zS sl sl2 b ja Pa hb Uy;subst this;rw[hp]at Jv;cases Jv
    ·have:=s.lt b ⟨id,sl,ja,hb⟩;omega
theorem GS{cf:eP}{C:q0}(hC:Sound cf C){f:FuncId}(hm:cf.M f= .R){args:List af}{r:ef}{vs:Array Value}(hc:cj cf C f args h=some r)(hb:ia cf.P f=true)(s:eG E h w)(hf:Full E h)(hg:ug cf.G E.S w)(hr:hH E w args vs):
  Calls cf.P f vs w (vX E h w r):=by
   unfold cj at hc;simp only[hm]at hc
   cases hq:C f args h with
   |none=>simp[hq]at hc
   |some q=>
   cases q with
   |jI v h1=>simp[hq]at hc
   |ret v h1=>
   simp only[hq]at hc;split at hc
   ·rename_i hle;have hle:h.length<=h1.length:=Nat.le_of_ble_eq_true hle;simp only[nM]at hc;obtain⟨v',qy,rfl⟩:=hc;refine Calls.mono (hC f args h _ hq E w vs hb s hf hg hr) fun e w1 he=>?_
    cases e with
    |panicked chain=>obtain⟨_,_,_,_,he,_⟩:=he;cases he
    |outgrown=>exact he.elim
    |returned u=>
     obtain⟨v2,h2,E1,Cz,s1,f1,x1,r1⟩:=he;cases Cz
     let p:Nat->Bool:=Nat.ble h.length
     let S':Nat->Prop:=fun b=>E1.S b∨ ∃id sl,p id=true/\E1.m id=some sl/\sl.Da=some b
     let q:Nat->Bool:=fun i=>Nat.blt i h.length
     have s2:eG (E1.kill q E1.S) (gh q 0 h1) w1:=s1.kill (fun _ _=>rfl) (aah _) (fun _ h=>h) (fun _ h=>.inl h) s1.pM;have r2:de (E1.kill q E1.S) w1 v u:=r1.uL fun _ h=>h
     have SS:=kX s2 (S':=S') (fun _ h=>.inl h) (fun id o sl b _ hm hb=>.inr (by
      obtain⟨g1,g2⟩:=qi hm hb;refine⟨id,sl,?_,g2,hb⟩;refine Nat.ble_eq.mpr (Nat.le_of_not_lt fun fK=>?_);have:q id=true:=Nat.ble_eq.mpr fK;rw[g1]at this;cases this)) _ _ _ _ qy r2
     refine⟨v',gh p 0 h1,E1.kill p S',rfl,s1.kill (fun _ _=>rfl) (aah _) (fun _ h=>.inl h) (fun b hb=>hb.elim .inl fun h=>.inr (.inl h)) (fun b hb=>hb.elim (s1.pM b) fun⟨id,sl,_,g1,g2⟩=>s1.lt b ⟨id,sl,g1,g2⟩),fun k hk=>tL (f1 k (by rw[il]at hk;exact hk)),⟨⟨fun b hb=>.inl (x1.S b hb),fun b hb=>?_,x1.mem,fun id sl hm=>?_,fun b⟨id,sl,g1,g2⟩=>x1.new b ⟨id,sl,(qi g1 g2).2,g2⟩,by rw[il];exact hle,x1.size,x1.os,x1.tape,x1.output⟩,fun id g1 g2=>tL (x1.fresh id g1 g2)⟩,.fJ SS⟩
     ·rcases hb with hb|⟨id,sl,_,g1,g2⟩
      ·exact x1.SN b hb
      ·exact(x1.new b ⟨id,sl,g1,g2⟩).elim (fun h=>.inr (.inl h)) fun h=>.inr (.inr h)
     ·rcases x1.m id sl hm with h3|h3
      ·exact v7 h3
      ·exact .inr ((v7 h3).elim (fun h=>h) fun h=>h)
   ·cases hc
theorem eG.aav{h0:aG}{p:Nat->Bool}{j:Bool}(s:eG E h w)(hT: ∀id cs b jB sz(k:Nat) c,h[id]?=some (.box (.agg cs))->E.m id=some (.live b jB sz)->cs[k]?=some c-> ∃u,w.cell? ⟨b,0+k,none⟩=some u/\ ∀a,snap h0 c=some a->de E w a u):eG E (LZ j h0 p h) w:=by
 cases j with
 |false=>exact s
 |true=>
 refine⟨fun id o sl ho hm=>?_,s.inj,s.nS,s.lt,s.pM⟩;have iP:(h.map (yC h0 p))[id]?=some o:=ho;rw[aba,nM]at iP;obtain⟨o0,SU,rfl⟩:=iP;have h1:=s.obj id o0 sl SU hm
 cases o0 with
 |box x=>
  cases x with
  |agg cs=>
   cases sl with
   |live b jB sz=>
    refine⟨h1.1,by simpa[af.cells]using h1.2.1,fun k c hc=>?_⟩;have uJ:(cs.map (LY h0 p))[k]?=some c:=hc;rw[aba,nM]at uJ;obtain⟨c0,vW,rfl⟩:=uJ;obtain⟨u,hu,hr⟩:=h1.2.2 k c0 vW;refine⟨u,hu,?_⟩;obtain⟨u2,SH,h2⟩:=hT id cs b jB sz k c0 SU hm vW;rw[hu]at SH;cases SH
    cases c0<;>try exact hr
    simp only[LY];split
    ·split
     ·rename_i x hx;exact h2 _ hx
     ·exact hr
    ·exact hr
   |_=>exact h1.elim
  |_=>exact h1
 |_=>exact h1
theorem AI{cf:eP}{C:q0}{j:Bool}(hC:Sound cf C){f:FuncId}{args:List af}{r:ef}{vs:Array Value}(hc:qw j C f args h=some r)(hb:ia cf.P f=true)(s:eG E h w)(hf:Full E h)(hg:ug cf.G E.S w)(hr:hH E w args vs):
  Calls cf.P f vs w (vX E h w r):=by
   unfold qw at hc
   cases sa:dc (gh (fun i=>!fR h args i) 0 h) args with
   |none=>simp[sa]at hc
   |some as=>
   simp only[sa]at hc
   cases hq:C f as []with
   |none=>simp[hq]at hc
   |some q=>
   cases q with
   |jI v h1=>simp[hq]at hc
   |ret v h1=>
    simp only[hq,nM]at hc;obtain⟨v',qy,rfl⟩:=hc
    let p:Nat->Bool:=fR h args
    let q:Nat->Bool:=fun i=>!fR h args i
    let I:Nat->Prop:=fun b=>∃id sl,p id=true/\E.m id=some sl/\sl.Da=some b
    have iE: ∀b,I b->E.im b:=fun b⟨id,sl,_,g1,g2⟩=>⟨id,sl,g1,g2⟩;have s2:eG (E.kill q E.S) (gh q 0 h) w:=s.kill (fun _ _=>rfl) (aah _) (fun _ h=>h) (fun _ h=>.inl h) s.pM;have r2:hH (E.kill q E.S) w args vs:=⟨hr.1,fun i c v h1 h2=>(hr.2 i c v h1 h2).uL fun _ h=>h⟩
    have PQ:hH (Env.bare fun b=>E.S b∨I b) w as vs:=mI s2 (fun _ h=>.inl h) (fun id o sl b _ hm hb=>.inr (by
     obtain⟨g1,g2⟩:=qi hm hb;refine⟨id,sl,?_,g2,hb⟩;have:(!fR h args id)=false:=g1;simpa using this)) sa r2
    refine Calls.mono (hC f as [] _ hq (Env.bare fun b=>E.S b∨I b) w vs hb (eG.bare fun b hb=>hb.elim (s.pM b) fun h=>s.lt b (iE b h)) (fun _ _=>rfl) (hg.mono (fun _ h=>.inl h) fun _ _=>rfl) PQ) fun e w1 he=>?_
    cases e with
    |panicked chain=>obtain⟨_,_,_,_,he,_⟩:=he;cases he
    |outgrown=>exact he.elim
    |returned u=>
     obtain⟨v2,h2,E1,Cz,s1,f1,x1,r1⟩:=he;cases Cz
     let S':Nat->Prop:=fun b=>E.S b∨I b∨(w.heap.size<=b/\(E1.S b∨E1.im b))
     have SS:=kX s1 (S':=fun b=>E1.S b∨E1.im b) (fun _ h=>.inl h) (fun id o sl b _ hm hb=>.inr ⟨id,_,hm,hb⟩) _ _ _ _ qy r1;have lT: ∀b,b<w.heap.size->w1.heap[b]?=w.heap[b]?:=fun b hb=>x1.mem b hb Env.gC
     have sK:eG (E.kill p S') (gh p 0 h) w1:=s.kill lT x1.size (fun _ h=>.inl h) (fun b hb=>by
      rcases hb with h3|h3|⟨h3,_⟩
      ·exact .inl h3
      ·exact .inr (.inl h3)
      ·exact .inr (.inr h3)) (fun b hb=>by
      rcases hb with h3|h3|⟨_,h3|h3⟩
      ·exact abc (s.pM b h3) x1.size
      ·exact abc (s.lt b (iE b h3)) x1.size
      ·exact s1.pM b h3
      ·exact s1.lt b h3)
     have sT:eG (E.kill p S') (LZ j (gh q 0 h) p (gh p 0 h)) w1:=sK.aav (p:=p) fun id cs b jB sz k c ho hm hc=>by
      rw[tK,nM]at ho;obtain⟨o0,SU,hoe⟩:=ho;rw[aaK]at hoe;obtain⟨Pb,ja⟩:=qi (b:=b) hm rfl;rw[Pb,cond_false]at hoe;subst hoe;have VK:eO E w (.box (.agg cs)) (.live b jB sz):=s.obj id _ _ SU ja;obtain⟨u,hu,xA⟩:=VK.2.2 k c hc;refine⟨u,by rw[World.cell?_of_block (w:=w) (lT b (s.lt b ⟨id,_,ja,rfl⟩))];exact hu,fun a' ha=>?_⟩;have hz:de (E.kill q E.S) w c u:=xA.uL fun _ h=>h
      have:=kX s2 (S':=fun b=>E.S b∨I b) (fun _ h=>.inl h) (fun id o sl b _ hm hb=>.inr (by
       obtain⟨g1,g2⟩:=qi hm hb;refine⟨id,sl,?_,g2,hb⟩;have:(!fR h args id)=false:=g1;simpa using this)) _ _ _ _ ha hz
      exact .fJ (this.mono (fun b hb=>hb.elim .inl fun h=>.inr (.inl h)) fun b hb=>lT b (hb.elim (s.pM b) fun h=>s.lt b (iE b h)))
     have hlen:(LZ j (gh q 0 h) p (gh p 0 h)).length=h.length:=by
      cases j
      ·exact il _ _ _
      ·show(List.map _ _).length=_;rw[aat,il]
     refine⟨v',_,E.kill p S',rfl,sT,fun k hk=>tL (hf k (by rw[hlen]at hk;exact hk)),⟨⟨fun b hb=>.inl hb,fun b hb=>?_,fun b hb _=>lT b hb,fun id sl hm=>v7 hm,fun b⟨id,sl,g1,g2⟩=>.inl ⟨id,sl,(qi g1 g2).2,g2⟩,by rw[hlen];exact aah _,x1.size,x1.os,x1.tape,x1.output⟩,fun id g1 g2=>tL g2⟩,.fJ (SS.mono (fun b hb=>?_) fun _ _=>rfl)⟩
     ·rcases hb with h3|h3|⟨h3,_⟩
      ·exact .inl h3
      ·exact .inr (.inl (iE b h3))
      ·exact .inr (.inr h3)
     ·rcases hb with h2|h2
      ·rcases x1.SN b h2 with h3|h3|h3
       ·exact h3.elim .inl fun h=>.inr (.inl h)
       ·exact absurd h3 Env.gC
       ·exact .inr (.inr ⟨h3,.inl h2⟩)
      ·rcases x1.new b h2 with h3|h3
       ·exact absurd h3 Env.gC
       ·exact .inr (.inr ⟨h3,.inr h2⟩)
theorem GU{cf:eP}{C:q0}(hC:Sound cf C){f:FuncId}(hm:cf.M f= .V){args:List af}{r:ef}{vs:Array Value}(hc:cj cf C f args h=some r)(hb:ia cf.P f=true)(s:eG E h w)(hf:Full E h)(hg:ug cf.G E.S w)(hr:hH E w args vs):
  Calls cf.P f vs w (vX E h w r):=by
   unfold cj at hc;simp only[hm]at hc
   cases hs:dc [] args with
   |some as=>
    simp only[hs]at hc
    cases hq:C f as []with
    |none=>simp[hq]at hc
    |some q=>
    cases q with
    |jI v h1=>simp[hq]at hc
    |ret v h1=>simp only[hq,nM]at hc;exact ru hC hs hq hc hb s hf hg hr
   |none=>simp only[hs]at hc;exact AI hC hc hb s hf hg hr
theorem GV{cf:eP}{C:q0}(hC:Sound cf C){f:FuncId}(hm:cf.M f= .X){args:List af}{r:ef}{vs:Array Value}(hc:cj cf C f args h=some r)(hb:ia cf.P f=true)(s:eG E h w)(hf:Full E h)(hg:ug cf.G E.S w)(hr:hH E w args vs):
  Calls cf.P f vs w (vX E h w r):=by
   unfold cj at hc;simp only[hm]at hc
   cases hs:dc [] args with
   |some as=>
    simp only[hs]at hc
    cases hq:C f as []with
    |none=>simp[hq]at hc
    |some q=>
    cases q with
    |jI v h1=>simp[hq]at hc
    |ret v h1=>simp only[hq,nM]at hc;exact ru hC hs hq hc hb s hf hg hr
   |none=>simp only[hs]at hc;exact AI hC hc hb s hf hg hr
theorem sM{cf:eP}{C:q0}(hC:Sound cf C){f:FuncId}{args:List af}{r:ef}{vs:Array Value}(hc:cj cf C f args h=some r)(hb:ia cf.P f=true)(s:eG E h w)(hf:Full E h)(hg:ug cf.G E.S w)(hr:hH E w args vs):
  Calls cf.P f vs w (vX E h w r):=by
   cases hm:cf.M f with
   |X=>exact GV hC hm hc hb s hf hg hr
   |K=>exact GR hC hm hc hb s hf hg hr
   |R=>exact GS hC hm hc hb s hf hg hr
   |V=>exact GU hC hm hc hb s hf hg hr
   |F=>unfold cj at hc;simp only[hm]at hc;exact hC f args h r hc E w vs hb s hf hg hr
   |N=>
    cases r with
    |jI v h'=>
     exfalso;unfold cj at hc;simp only[hm]at hc;split at hc
     ·split at hc
      ·split at hc<;>cases hc
      ·cases hc
     ·cases hc
    |ret v h'=>
     have qB:h <+: h':=by
      have uJ:=hc;unfold cj at uJ;simp only[hm]at uJ;split at uJ
      ·split at uJ
       ·split at uJ
        ·cases uJ;exact List.prefix_append _ _
        ·cases uJ
       ·cases uJ
      ·cases uJ
     obtain⟨_,yM⟩:=yL hC hm hc hb (aa2 h') (fun k h1 _=>hf k h1) (s.more qB hf) hg hr;refine Calls.mono yM fun e w1 he=>?_
     cases e with
     |panicked chain=>exact he.elim
     |outgrown=>exact he.elim
     |returned u=>
      obtain⟨v2,h2,E',hq,s',x',r',ja⟩:=he;cases hq
      refine⟨v,h',E',rfl,s',fun k hk=>?_,⟨⟨x'.S,x'.SN,x'.mem,x'.m,x'.new,qB.length_le,x'.size,x'.os,x'.tape,x'.output⟩,fun k g1 g2=>(ja k).elim (fun h=>h.trans g2) fun h=>by omega⟩,r'⟩;rcases ja k with h1|⟨_,h2⟩
      ·rw[h1];exact hf k (aa3 qB.length_le hk)
      ·omega
   |P=>
    refine Calls.mono (yK hC hm hc hb (aa2 _) s hg hr) fun e w1 he=>?_
    cases e with
    |returned u=>obtain⟨v,S1,rfl,p1,p2,p3⟩:=he;exact⟨v,h,_,rfl,p1,hf,p2,p3⟩
    |panicked chain=>obtain⟨v,S1,u,rfl,rfl,p1,p2,p3⟩:=he;exact⟨v,h,_,u,rfl,rfl,p1,hf,p2,p3⟩
    |outgrown=>exact he.elim
end
end Go.Am

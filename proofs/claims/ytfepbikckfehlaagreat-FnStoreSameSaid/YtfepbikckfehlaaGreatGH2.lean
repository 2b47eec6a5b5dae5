/- Each operation that leaves the memory alone does on values what Am says: the rest of them, and all in one. -/
import Derived.Test.YtfepbikckfehlaaGreatGSBmB
import Derived.WideLaws
import Derived.Laws.Pointers
import Derived.Laws.Small
import Derived.Laws.Cover3
set_option linter.unusedVariables false
set_option linter.unusedSimpArgs false
set_option maxHeartbeats 4000000
namespace Go.Am
open Go
theorem iO{α β:Type}{f:α->Option β}: ∀{l:List α}{r:List β},di f l=some r->l.length=r.length/\ ∀(i:Nat)(x:α)(y:β),l[i]?=some x->r[i]?=some y->f x=some y:=by
 intro l
 induction l with
 |nil=>intro r h;simp only[di]at h;cases h;exact⟨rfl,fun i x y hx=>by simp at hx⟩
 |cons a l ih=>
  intro r h;simp only[di]at h
  cases ha:f a with
  |none=>simp[ha]at h
  |some b=>
   cases hl:di f l with
   |none=>simp[ha,hl]at h
   |some bs=>
    simp only[ha,hl]at h;cases h
    obtain⟨h1,h2⟩:=ih hl;refine⟨by simp[h1],fun i x y hx hy=>?_⟩
    cases i with
    |zero=>simp at hx hy;subst hx hy;exact ha
    |succ i=>simp at hx hy;exact h2 i x y hx hy
theorem bP{α:Type}{l:List α}{i:Nat}(h:i<l.length): ∃x,l[i]?=some x:=⟨l[i],aab h⟩
theorem eM{α:Type}{l:Array α}{i:Nat}(h:i<l.size): ∃x,l[i]?=some x:=⟨l[i],abb h⟩
theorem Gu{S:Nat->Prop}{w:World}{v:Value}{a:af}(h:SA v=some a):fD S w a v:=by
 unfold SA at h;split at h<;>first|(cases h;constructor)|cases h
theorem zO{S:Nat->Prop}{w:World}{v:Value}{a:af}(h:ZB v=some a):fD S w a v:=by
 unfold ZB at h;split at h
 ·rename_i cs;simp only[nM]at h;obtain⟨l,hl,rfl⟩:=h;obtain⟨h1,h2⟩:=iO hl;refine .agg l cs (by simpa using h1.symm) fun i c v hc hv=>Gu (h2 i v c (by simpa using hv) hc)
 ·exact Gu h
theorem de.cells{E:Env}{w:World}{a:af}{v:Value}(h:de E w a v):a.cells.length=v.cells.size/\ ∀(j:Nat)(c:af),a.cells[j]?=some c-> ∃u,v.cells[j]?=some u/\de E w c u:=by
 have one: ∀{a v},de E w a v->a.cells=[a]->v.cells= #[v]->a.cells.length=v.cells.size/\ ∀(j:Nat)(c:af),a.cells[j]?=some c-> ∃u,v.cells[j]?=some u/\de E w c u:=by
  intro a v h ha hv;rw[ha,hv];refine⟨rfl,fun j c hj=>?_⟩
  cases j with
  |zero=>simp at hj;subst hj;exact⟨v,rfl,h⟩
  |succ j=>simp at hj
 have many: ∀(cs:List af)(vs:Array Value),cs.length=vs.size->(∀(i:Nat)(c:af)(v:Value),cs[i]?=some c->vs[i]?=some v->de E w c v)->(af.agg cs).cells.length=(Value.agg vs).cells.size/\ ∀(j:Nat)(c:af),(af.agg cs).cells[j]?=some c-> ∃u,(Value.agg vs).cells[j]?=some u/\de E w c u:=by
  intro cs vs hl hr;refine⟨hl,fun j c hj=>?_⟩;have fK:j<vs.size:=by rw[<-hl];exact(aag.1 hj).1
  obtain⟨u,hu⟩:=eM fK;exact⟨u,hu,hr j c u hj hu⟩
 cases h with
 |fJ h=>
  cases h
  case agg cs vs hl hr=>exact many cs vs hl fun i c v hc hv=>.fJ (hr i c v hc hv)
  all_goals exact one (.fJ (by constructor<;>assumption)) rfl rfl
 |agg cs vs hl hr=>exact many cs vs hl hr
 |own id st len a cap b jB sz hm gM h=>exact one (.own id st len a cap b jB sz hm gM h) rfl rfl
 |sE id st len a cap hm gM=>exact one (.sE id st len a cap hm gM) rfl rfl
 |ptr id i off b jB sz hm=>exact one (.ptr id i off b jB sz hm) rfl rfl
 |xy id i off a hm=>exact one (.xy id i off a hm) rfl rfl
 |map id b hm=>exact one (.map id b hm) rfl rfl
 |Nh id b hm=>exact one (.Nh id b hm) rfl rfl
 |it id b hm=>exact one (.it id b hm) rfl rfl
 |XH id a hm=>exact one (.XH id a hm) rfl rfl
 |eT cs vs hl hr=>exact one (.eT cs vs hl hr) rfl rfl
 |func fn a b va vb Ng vM PB PC=>exact one (.func fn a b va vb Ng vM PB PC) rfl rfl
 |iface t a v hr=>exact one (.iface t a v hr) rfl rfl
theorem de.bQ{E:Env}{w:World}{a:af}{v:Value}(h:de E w a v)(hc:a.bQ=true):v.oneCell'=true:=by
 cases h with
 |fJ h=>cases h<;>first|rfl|cases hc
 |_=>first|rfl|cases hc
def ug(G:Nat->Option af)(S:Nat->Prop)(w:World):Prop:=∀g v,G g=some v->fD S w (.fQ [v] 0 0) (.pointer (some ⟨g,0,none⟩))
def lQ(E:Env)(w:World)(tm:Nat->af)(a:Act):Prop:=∀k,de E w (tm k) (a.tmps.getD k undef)
theorem Aq{E:Env}{w:World}{G:Nat->Option af}{tm:Nat->af}{a:Act}(hg:ug G E.S w)(ht:lQ E w tm a){x:Operand}{v:af}(h:ev G tm x=some v):de E w v (a.eval x):=by
 cases x with
 |tmp t=>simp only[ev]at h;cases h;exact ht t
 |const c=>exact .fJ (zO h)
 |global g=>
  simp only[ev,nM]at h;obtain⟨u,hu,rfl⟩:=h
  exact .fJ (hg g u hu)
 |func f=>
  simp only[ev]at h;cases h
  exact .func (.func f) [] [] #[] #[] rfl rfl (fun i c v hc=>by simp at hc) (fun i c v hc=>by simp at hc)
section
variable{P:Program}{E:Env}{w:World}
theorem de.int{k:IntKind}{n:Int}{v:Value}(h:de E w (.int k n) v):v= .int k n:=by cases h with|fJ h=>cases h;rfl
theorem de.bool{b:Bool}{v:Value}(h:de E w (.bool b) v):v= .bool b:=by cases h with|fJ h=>cases h;rfl
theorem de.str{s:ByteArray}{v:Value}(h:de E w (.str s) v):v= .string s:=by cases h with|fJ h=>cases h;rfl
theorem de.dE{cs:List af}{v:Value}(h:de E w (.agg cs) v): ∃vs,v= .agg vs/\cs.length=vs.size/\ ∀(i:Nat)(c:af)(v:Value),cs[i]?=some c->vs[i]?=some v->de E w c v:=by
 cases h with
 |fJ h=>cases h with|agg cs vs hl hr=>exact⟨vs,rfl,hl,fun i c v hc hv=>.fJ (hr i c v hc hv)⟩
 |agg cs vs hl hr=>exact⟨vs,rfl,hl,hr⟩
theorem de.SE{cs:List af}{v:Value}(h:de E w (.eT cs) v): ∃vs,v= .tuple vs/\cs.length=vs.size/\ ∀(i:Nat)(c:af)(v:Value),cs[i]?=some c->vs[i]?=some v->de E w c v:=by
 cases h with
 |fJ h=>cases h with|eT cs vs hl hr=>exact⟨vs,rfl,hl,fun i c v hc hv=>.fJ (hr i c v hc hv)⟩
 |eT cs vs hl hr=>exact⟨vs,rfl,hl,hr⟩
theorem sG{t:TypeId}{b:Bool}{n:Nat}(h:Vm P t=some (b,n)): ∃d i,P.underlying t=some d/\P.info? t=some i/\sy d=b/\i.size=n:=by
 unfold Vm at h;split at h
 ·rename_i d i hd hi;simp at h;exact⟨d,i,hd,hi,h.1,h.2⟩
 ·cases h
theorem mH{t:TypeId}{d:TypeDesc}(hd:P.underlying t=some d)(w:World):(isAgg t).run P w= .ok (sy d) w:=by
 unfold isAgg;rw[aa7,run_underlying hd w];cases d<;>rfl
theorem rj{t:TypeId}{x r:af}{off b o:Nat}(hx:jO E w b o x)(h:fZ P t x off=some r):
  ∃v,(loadVar t ⟨b,o+off,none⟩).run P w= .ok v w/\de E w r v:=by
   unfold fZ at h;split at h
   ·rename_i s hs;obtain⟨d,i,hd,hi,ha,jP⟩:=sG hs;split at h
    ·rename_i hle;cases h
     have sI: ∀j,j<s-> ∃v,w.cell? ⟨b,o+off+j,none⟩=some v/\ ∀c,x.cells[off+j]?=some c->de E w c v:=by
      intro j hj;obtain⟨c,hc⟩:=bP (l:=x.cells) (i:=off+j) (by omega);obtain⟨v,hv,hr⟩:=hx (off+j) c hc;refine⟨v,by rw[abI];exact hv,fun c' uJ=>by rw[hc]at uJ;cases uJ;exact hr⟩
     let vs:List Value:=(List.range s).map fun j=>(w.cell? ⟨b,o+off+j,none⟩).getD undef
     have uh: ∀j v,vs[j]?=some v->w.cell? ⟨b,o+off+j,none⟩=some v:=by
      intro j v hv
      have hj:j<s:=by
       have:=(aag.1 hv).1;simpa[vs]using this
      obtain⟨u,hu,_⟩:=sI j hj;simp[vs,hj,hu]at hv;rw[hu,hv]
     have hlen:vs.length=s:=by simp[vs]
     refine⟨.agg vs.toArray,run_loadVar_mid w b (o+off) t vs d uh hd (by cases d<;>simp_all[sy,TypeDesc.isRow]) (by rw[hi,hlen];simp[jP]),?_⟩;refine .agg _ _ (by simp[hlen];omega) fun j c v hc hv=>?_
     have hj:j<s:=by
      have:=(aag.1 hc).1;simp at this;omega
     have uJ:x.cells[off+j]?=some c:=by
      rw[aby,if_pos hj,List.getElem?_drop]at hc;exact hc
     obtain⟨u,hu,hr⟩:=sI j hj;have:=uh j v (by simpa using hv);rw[hu]at this;cases this
     exact hr c uJ
    ·cases h
   ·rename_i s hs;obtain⟨d,i,hd,hi,ha,jP⟩:=sG hs;obtain⟨v,hv,hr⟩:=hx off r h;refine⟨v,?_,hr⟩;unfold loadVar;rw[aa7,mH hd,aaE,ha];simp[hv]
   ·cases h
theorem SG{S:Nat->Prop}{xs:List af}{i off:Nat}{v:Value}(h:fD S w (.fQ xs i off) v): ∃b o s,v= .pointer (some ⟨b,o+(i*s+off),none⟩)/\ ∀x,xs[i]?=some x->(E.S=S->jO E w b (o+i*s) x):=by
 cases h with
 |fQ _ _ _ s b o vs hs hc hr=>
  refine⟨b,o,s,rfl,fun x hx hE j c hj=>?_⟩;subst hE;obtain⟨h1,h2⟩:=hc i j x c hx hj;exact⟨_,by rw[abI];exact h2,.fJ (hr i j x c hx hj)⟩
theorem Ar{h:aG}(s:eG E h w){t:TypeId}{a r:af}{va:Value}(ha:de E w a va)(hl:ku P t a h=some r):
  ∃v,(Instr.loadAt t va).run P w= .ok v w/\de E w r v:=by
   have fin: ∀(ad:Addr)(v:Value),va= .pointer (some ad)->(loadVar t ad).run P w= .ok v w->(Instr.loadAt t va).run P w= .ok v w:=by
    intro ad v O7 hr;subst O7;simp only[Instr.loadAt,Instr.sureAddr,aa7,Sem.run_pure,aaE,hr]
   unfold ku at hl;split at hl
   ·rename_i id i off
    cases ho:h[id]? with
    |none=>simp[ho]at hl
    |some o=>
     cases ha with
     |fJ hc=>cases hc
     |xy _ _ _ ad hm=>
      have:=s.obj id o _ ho hm
      cases o<;>simp only[eO]at this<;>simp[ho]at hl
     |ptr _ _ _ b jB sz hm=>
      have hk:=s.obj id o _ ho hm
      cases o with
      |box x=>
       simp only[eO]at hk;simp only[ho]at hl;split at hl
       ·rename_i hi;subst hi;obtain⟨v,hv,hr⟩:=rj hk.2.2 hl;exact⟨v,fin _ v rfl (by simpa using hv),hr⟩
       ·cases hl
      |arr jz es=>
       simp only[eO]at hk;obtain⟨rfl,eQ,hle,hs,gN⟩:=hk;simp only[ho]at hl
       cases hx:es[i]? with
       |none=>simp[hx]at hl
       |some x=>
        simp only[hx]at hl;obtain⟨v,hv,hr⟩:=rj (gN i x hx) hl
        exact⟨v,fin _ v rfl hv,hr⟩
      |qv ks vs=>simp[ho]at hl
      |iter q pos=>simp[ho]at hl
      |dead=>simp[ho]at hl
   ·rename_i xs i off
    cases ha with
    |fJ hc=>
     obtain⟨b,o,sz,rfl,hx⟩:=SG (E:=E) hc
     cases hxi:xs[i]? with
     |none=>simp[hxi]at hl
     |some x=>
      simp only[hxi]at hl;obtain⟨v,hv,hr⟩:=rj (hx x hxi rfl) hl;exact⟨v,fin _ v rfl (by rw[<-abI];exact hv),hr⟩
   ·cases hl
theorem As{t:TypeId}{cs:List af}{vs:Array Value}{off:Nat}{r:af}(hl:cs.length=vs.size)(hr: ∀(i:Nat)(c:af)(v:Value),cs[i]?=some c->vs[i]?=some v->de E w c v)
  (h:fZ P t (.agg cs) off=some r): ∃v,(part t vs off).run P w= .ok v w/\de E w r v:=by
   unfold fZ at h;split at h
   ·rename_i s hs;obtain⟨d,i,hd,hi,ha,jP⟩:=sG hs;split at h
    ·rename_i hle;cases h
     simp only[af.cells]at hle⊢;refine⟨.agg (vs.extract off (off+s)),?_,?_⟩
     ·unfold part;rw[aa7,mH hd,aaE,ha];simp[sizeOf,typeInfo,hi,jP]
     ·refine .agg _ _ (by simp;omega) fun j c v hc hv=>?_
      have hj:j<s:=by
       have:=(aag.1 hc).1;simp at this;omega
      rw[aby,if_pos hj,List.getElem?_drop]at hc;rw[Array.getElem?_extract]at hv;split at hv
      ·exact hr _ c v hc hv
      ·cases hv
    ·cases h
   ·rename_i s hs;obtain⟨d,i,hd,hi,ha,jP⟩:=sG hs;simp only[af.cells]at h;have fK:off<vs.size:=by rw[<-hl];exact(aag.1 h).1
    obtain⟨v,hv⟩:=eM fK;refine⟨v,?_,hr off r v h hv⟩;unfold part;rw[aa7,mH hd,aaE,ha];simp[hv]
   ·cases h
theorem Gv{t:TypeId}{x r:af}{v:Value}{f:Nat}(hx:de E w x v)(h:JE P t x f=some r): ∃u,(Instr.field t v f).run P w= .ok u w/\de E w r u:=by
 unfold JE at h;split at h
 ·rename_i cs off ft hf;obtain⟨vs,rfl,hl,hr⟩:=hx.dE;obtain⟨u,hu,xA⟩:=As hl hr h;refine⟨u,?_,xA⟩;unfold XF at hf;split at hf
  ·rename_i fs SH;simp only[nM]at hf;obtain⟨fd,XI,he⟩:=hf;cases he
   simp[Instr.field,run_underlying SH,XI,asAgg,hu]
  ·cases hf
 ·cases h
theorem sb{sT f k:Nat}{x:af}{v:Value}(hk:Vn P sT f=some k)(hx:de E w x v):
  (∀id i off,x= .ptr id i off-> ∃u,(Instr.fieldAt sT v f).run P w= .ok u w/\de E w (.ptr id i (off+k)) u)/\
  (∀xs i off,x= .fQ xs i off-> ∃u,(Instr.fieldAt sT v f).run P w= .ok u w/\de E w (.fQ xs i (off+k)) u):=by
   have run: ∀ad:Addr,v= .pointer (some ad)->(Instr.fieldAt sT v f).run P w= .ok (.pointer (some (ad.add k))) w:=by
    intro ad hv;subst hv;unfold Vn at hk;split at hk
    ·rename_i fs hu
     cases hf:fs[f]? with
     |none=>simp[hf]at hk
     |some fd=>
      cases hi:P.info? fd.type with
      |none=>simp[hf,hi]at hk
      |some i=>
       simp only[hf,hi]at hk;split at hk
       ·cases hk
       ·rename_i h0;cases hk
        simp[Instr.fieldAt,run_underlying hu,hf,Instr.sureAddr,fieldPlace,sizeOf,typeInfo,hi,h0]
    ·cases hk
   refine⟨fun id i off he=>?_,fun xs i off he=>?_⟩
   ·subst he
    cases hx with
    |fJ hc=>cases hc
    |ptr _ _ _ b jB sz hm=>exact⟨_,run _ rfl,by rw[Addr.add_mid,abI];exact .ptr id i (off+k) b jB sz hm⟩
    |xy _ _ _ ad hm=>exact⟨_,run _ rfl,.xy id i (off+k) _ hm⟩
   ·subst he
    cases hx with
    |fJ hc=>
     cases hc with
     |fQ _ _ _ s b o vs hs hc hr=>exact⟨_,run _ rfl,by rw[Addr.add_mid,abI,abI];exact .fJ (.fQ xs i (off+k) s b o vs hs hc hr)⟩
end
end Go.Am
set_option maxHeartbeats 4000000
namespace Go.Am
open Go
section
variable{P:Program}{E:Env}{w:World}
def PG(E:Env)(w:World)(cs:List af)(vs:Array Value):Prop:=cs.length=vs.size/\ ∀(i:Nat)(c:af)(v:Value),cs[i]?=some c->vs[i]?=some v->de E w c v
theorem At: ∀(l ks:List FK)(x1 x2 y1 y2:List af),x1.length=l.length->y1.length=l.length-> ∀r,fC (l++ks) (x1++x2) (y1++y2)=some r->
  ∃r1 r2,fC l x1 y1=some r1/\fC ks x2 y2=some r2/\r=(r1&&r2):=by
   intro l
   induction l with
   |nil=>
    intro ks x1 x2 y1 y2 h1 h2 r h;simp at h1 h2;subst h1 h2
    exact⟨true,r,rfl,h,rfl⟩
   |cons k l ih=>
    intro ks x1 x2 y1 y2 h1 h2 r h
    cases x1 with
    |nil=>simp at h1
    |cons a x1=>
     cases y1 with
     |nil=>simp at h2
     |cons b y1=>
      have PH:x1.length=l.length:=by simpa using h1
      have Dc:y1.length=l.length:=by simpa using h2
      simp only[abD]at h;cases k<;>cases a<;>cases b<;>simp only[fC]at h<;>try(cases h;done)
      ·rename_i ka a kb b;split at h
       ·rename_i hk;simp only[nM]at h;obtain⟨q,hq,rfl⟩:=h;obtain⟨r1,r2,e1,e2,rfl⟩:=ih ks x1 x2 y1 y2 PH Dc q hq;exact⟨(a==b&&r1),r2,by simp only[fC];rw[if_pos hk,e1];rfl,e2,by simp[Bool.and_assoc]⟩
       ·cases h
      all_goals
       rename_i a b;simp only[nM]at h;obtain⟨q,hq,rfl⟩:=h;obtain⟨r1,r2,e1,e2,rfl⟩:=ih ks x1 x2 y1 y2 PH Dc q hq;exact⟨(a==b&&r1),r2,by simp only[fC];rw[e1];rfl,e2,by simp[Bool.and_assoc]⟩
theorem Gw: ∀(ks:List FK)(xs ys:List af)(r:Bool),fC ks xs ys=some r->xs.length=ks.length/\ys.length=ks.length:=by
 intro ks
 induction ks with
 |nil=>intro xs ys r h;cases xs<;>cases ys<;>simp[fC]at h⊢
 |cons k ks ih=>
  intro xs ys r h
  cases xs with
  |nil=>cases k<;>simp[fC]at h
  |cons x xs=>
   cases ys with
   |nil=>cases k<;>cases x<;>simp[fC]at h
   |cons y ys=>
    cases k<;>cases x<;>cases y<;>simp only[fC]at h<;>try cases h
    ·split at h
     ·simp only[nM]at h;obtain⟨q,hq,_⟩:=h;simpa using ih _ _ _ hq
     ·cases h
    all_goals(simp only[nM]at h;obtain⟨q,hq,_⟩:=h;simpa using ih _ _ _ hq)
theorem PG.part{xs:List af}{vs:Array Value}(h:PG E w xs vs)(off n:Nat)(hle:off+n<=xs.length):PG E w ((xs.drop off).take n) (vs.extract off (off+n)):=by
 refine⟨by simp;have:=h.1;omega,fun i c v hc hv=>?_⟩
 have hi:i<n:=by
  have:=(aag.1 hc).1;simp at this;omega
 rw[aby,if_pos hi,List.getElem?_drop]at hc;rw[Array.getElem?_extract]at hv;split at hv
 ·exact h.2 _ c v hc hv
 ·cases hv
theorem JI: ∀(n:Nat)(t:TypeId)(ks:List FK),uw P n t=some ks-> ∀(d:Nat),n<=d-> ∀(x y:Value)(xs ys:List af)(r:Bool),fC ks xs ys=some r->
  (∀ds,P.underlying t=some ds->sy ds=true->(∃vx,x= .agg vx/\PG E w xs vx)/\ ∃vy,y= .agg vy/\PG E w ys vy)->
  (∀ds,P.underlying t=some ds->sy ds=false->(∃a,xs=[a]/\de E w a x)/\ ∃b,ys=[b]/\de E w b y)->(Op.equalIn d t x y).run P w= .ok r w:=by
   intro n
   induction n with
   |zero=>intro t ks h;simp[uw]at h
   |succ n ih=>
    intro t ks h d hd x y xs ys r hr Vq m7;obtain⟨d,rfl⟩: ∃e,d=e+1:=⟨d-1,by omega⟩;simp only[uw]at h
    cases hu:P.underlying t with
    |none=>simp[hu]at h
    |some ds=>
     cases ds
     case bool=>
      simp only[hu]at h;cases h
      obtain⟨⟨a,rfl,ha⟩,b,rfl,hb⟩:=m7 _ hu rfl;cases a<;>cases b<;>simp[fC]at hr
      subst hr;rw[ha.bool,hb.bool];exact run_equalIn_bool' w d t _ _ hu
     case int k=>
      simp only[hu]at h;cases h
      obtain⟨⟨a,rfl,ha⟩,b,rfl,hb⟩:=m7 _ hu rfl;cases a<;>cases b<;>simp[fC]at hr
      obtain⟨rfl,rfl⟩:=hr;rw[ha.int,hb.int];exact run_equalIn_int w d t _ k _ _ hu
     case string=>
      simp only[hu]at h;cases h
      obtain⟨⟨a,rfl,ha⟩,b,rfl,hb⟩:=m7 _ hu rfl;cases a<;>cases b<;>simp[fC]at hr
      subst hr;rw[ha.str,hb.str,run_equalIn_string w d t _ _ hu,beq_toListBytes]
     case struct fs=>
      simp only[hu]at h;obtain⟨⟨vx,rfl,hx⟩,vy,rfl,hy⟩:=Vq _ hu rfl;split at h
      ·cases h
      ·rename_i dN;have JJ:P.fieldsOf t=fs:=by simp[Program.fieldsOf,hu]
       rw[run_equalIn_struct w d t vx vy (by rw[JJ];exact hu) (by simpa using dN),JJ];obtain⟨hlx,hly⟩:=Gw _ _ _ _ hr
       have key: ∀(l:List Field)(off:Nat)(ks:List FK),Ad (uw P n) P l off=some ks->off+ks.length<=xs.length->off+ks.length<=ys.length->
         ∀r,fC ks ((xs.drop off).take ks.length) ((ys.drop off).take ks.length)=some r->(Op.eqFields d vx vy l).run P w= .ok r w:=by
          intro l
          induction l with
          |nil=>
           intro off ks hk h1 h2 r hr;simp only[Ad]at hk;cases hk
           simp[fC]at hr;subst hr
           rfl
          |cons f l XJ=>
           intro off ks hk h1 h2 r hr;simp only[Ad]at hk
           cases yE:uw P n f.type with
           |none=>simp[yE]at hk
           |some kf=>
            cases hi:P.info? f.type with
            |none=>simp[yE,hi]at hk
            |some i=>
             simp only[yE,hi]at hk;split at hk
             ·rename_i hc;obtain⟨hnm,SI,jP⟩:=hc;simp only[nM]at hk;obtain⟨k2,jS,rfl⟩:=hk;simp only[abv]at h1 h2 hr
              have cut: ∀zs:List af,(zs.drop off).take (kf.length+k2.length)=(zs.drop off).take kf.length++(zs.drop (off+kf.length)).take k2.length:=by
               intro zs;rw[List.take_add,List.drop_drop]
              rw[cut,cut]at hr;obtain⟨r1,r2,e1,e2,rfl⟩:=At kf k2 _ _ _ _ (by simp;omega) (by simp;omega) r hr;have Au:=XJ (off+kf.length) k2 jS (by omega) (by omega) r2 e2
              have Dd: ∃a b,(part f.type vx f.offset).run P w= .ok a w/\(part f.type vy f.offset).run P w= .ok b w/\(Op.equalIn d f.type a b).run P w= .ok r1 w:=by
               cases Uu:P.underlying f.type with
               |none=>cases n<;>simp[uw,Uu]at yE
               |some df=>
                cases Vr:sy df with
                |true=>
                 refine⟨.agg (vx.extract off (off+kf.length)),.agg (vy.extract off (off+kf.length)),?_,?_,?_⟩
                 ·unfold part;rw[aa7,mH Uu,aaE,Vr];simp[sizeOf,typeInfo,hi,jP,SI]
                 ·unfold part;rw[aa7,mH Uu,aaE,Vr];simp[sizeOf,typeInfo,hi,jP,SI]
                 ·exact ih f.type kf yE d (by omega) _ _ _ _ r1 e1 (fun ds Sn _=>⟨⟨_,rfl,hx.part off kf.length (by omega)⟩,_,rfl,hy.part off kf.length (by omega)⟩)
                   (fun ds Sn hf=>by rw[Uu]at Sn;cases Sn;rw[Vr]at hf;cases hf)
                |false=>
                 have m7:kf.length=1:=by
                  cases n with
                  |zero=>simp[uw]at yE
                  |succ n=>
                   simp only[uw,Uu]at yE;cases df<;>simp[sy]at Vr<;>simp at yE<;>subst yE<;>rfl
                 obtain⟨a,ha⟩:=bP (l:=xs) (i:=off) (by omega);obtain⟨b,hb⟩:=bP (l:=ys) (i:=off) (by omega);obtain⟨va,O7⟩:=eM (l:=vx) (i:=off) (by have:=hx.1;omega);obtain⟨vb,Xc⟩:=eM (l:=vy) (i:=off) (by have:=hy.1;omega);refine⟨va,vb,?_,?_,?_⟩
                 ·unfold part;rw[aa7,mH Uu,aaE,Vr];simp[SI,O7]
                 ·unfold part;rw[aa7,mH Uu,aaE,Vr];simp[SI,Xc]
                 ·have t1: ∀(zs:List af) z,zs[off]?=some z->(zs.drop off).take kf.length=[z]:=by
                   intro zs z hz;rw[m7,List.take_one,List.head?_drop,hz];rfl
                  rw[t1 xs a ha,t1 ys b hb]at e1
                  exact ih f.type kf yE d (by omega) _ _ _ _ r1 e1 (fun ds Sn hf=>by rw[Uu]at Sn;cases Sn;rw[Vr]at hf;cases hf)
                   (fun ds Sn _=>⟨⟨a,rfl,hx.2 off a va ha O7⟩,b,rfl,hy.2 off b vb hb Xc⟩)
              obtain⟨a,b,p1,p2,p3⟩:=Dd;simp only[Op.eqFields,if_pos hnm,aa7,p1,p2,p3,aaE,Sem.run_ite];cases r1
              ·simp
              ·simpa using Au
             ·cases hk
       refine key fs.toList 0 ks h (by omega) (by omega) r ?_;rw[List.drop_zero,List.drop_zero,<-hlx,aar,hlx,<-hly,aar];exact hr
     all_goals(simp only[hu]at h;cases h)
theorem JK{op:BinOp}{k:IntKind}{a b:Int}{r:af}(h:Pq op k a b=some r)(t:TypeId): ∃v,(binOp op t (.int k a) (.int k b)).run P w= .ok v w/\de E w r v:=by
 have int: ∀n,∃v,(Result.ok (Value.int k n) w:Result Value)= .ok v w/\de E w (.int k n) v:=fun n=>⟨_,rfl,.fJ (.int k n)⟩;have bl: ∀n,∃v,(Result.ok (Value.bool n) w:Result Value)= .ok v w/\de E w (.bool n) v:=fun n=>⟨_,rfl,.fJ (.bool n)⟩;have hk: ¬k≠k:=fun e=>e rfl;cases op<;>simp only[Pq]at h<;>try(cases h;done)
 case add=>cases h;simp only[binOp,Op.intArith,if_neg hk];exact int _
 case sub=>cases h;simp only[binOp,Op.intArith,if_neg hk];exact int _
 case mul=>cases h;simp only[binOp,Op.intArith,if_neg hk];exact int _
 case quo=>split at h<;>cases h;rename_i hb;simp only[binOp,Op.intDiv,if_neg hk,if_neg hb];exact int _
 case rem=>split at h<;>cases h;rename_i hb;simp only[binOp,Op.intDiv,if_neg hk,if_neg hb];exact int _
 case and=>cases h;simp only[binOp,Op.intBits,if_neg hk];exact int _
 case or=>cases h;simp only[binOp,Op.intBits,if_neg hk];exact int _
 case xor=>cases h;simp only[binOp,Op.intBits,if_neg hk];exact int _
 case eql=>cases h;simp only[binOp,Op.intCmp,if_neg hk];exact bl _
 case neq=>cases h;simp only[binOp,Op.intCmp,if_neg hk];exact bl _
 case lss=>cases h;simp only[binOp,Op.intCmp,if_neg hk];exact bl _
 case leq=>cases h;simp only[binOp,Op.intCmp,if_neg hk];exact bl _
 case gtr=>cases h;simp only[binOp,Op.intCmp,if_neg hk];exact bl _
 case geq=>cases h;simp only[binOp,Op.intCmp,if_neg hk];exact bl _
 case shr=>split at h<;>cases h;rename_i hb;simp only[binOp,Op.shift,if_neg hb];exact int _
end
end Go.Am
set_option maxHeartbeats 4000000
namespace Go.Am
open Go
section
variable{P:Program}{E:Env}{w:World}
def lL(P:Program)(E:Env)(w:World)(x:Sem Value)(r:af):Prop:=∃v,x.run P w= .ok v w/\de E w r v
theorem lL.int{x:Sem Value}{k:IntKind}{n:Int}(h:x.run P w= .ok (.int k n) w):lL P E w x (.int k n):=⟨_,h,.fJ (.int k n)⟩
theorem lL.bool{x:Sem Value}{b:Bool}(h:x.run P w= .ok (.bool b) w):lL P E w x (.bool b):=⟨_,h,.fJ (.bool b)⟩
theorem lL.str{x:Sem Value}{b:ByteArray}(h:x.run P w= .ok (.string b) w):lL P E w x (.str b):=⟨_,h,.fJ (.str b)⟩
theorem JL{op:BinOp}{a b:ByteArray}{r:af}(h:SB op a b=some r)(t:TypeId):lL P E w (binOp op t (.string a) (.string b)) r:=by
 cases op<;>simp only[SB]at h<;>try(cases h;done)
 case add=>
  split at h<;>cases h
  rename_i hl;refine lL.str ?_
  have hn: ¬((a.size+b.size:Nat):Int)>IntKind.i64.max:=by
   rw[IntKind.max_i64];unfold bB at hl;omega
  simp only[binOp,Op.stringOp,if_neg hn];rfl
 case eql=>cases h;exact lL.bool (by simp only[binOp,Op.stringOp];rfl)
 case neq=>cases h;exact lL.bool (by simp only[binOp,Op.stringOp];rfl)
 case lss=>cases h;exact lL.bool (by simp only[binOp,Op.stringOp];rfl)
theorem de.PI{v:Value}(h:de E w .qZ v):v= .nilIface:=by cases h with|fJ h=>cases h;rfl
theorem de.L4{v:Value}(h:de E w .sx v):v= .pointer none:=by cases h with|fJ h=>cases h;rfl
theorem de.Av{t:TypeId}{a:af}{v:Value}(h:de E w (.iface t a) v): ∃u,v= .iface t u/\de E w a u:=by
 cases h with
 |fJ h=>cases h with|iface _ _ u hr=>exact⟨u,rfl,.fJ hr⟩
 |iface _ _ u hr=>exact⟨u,rfl,hr⟩
theorem de.zP{a:af}{v:Value}(h:de E w a v)(hp:(∃id i off,a= .ptr id i off)∨ ∃xs i off,a= .fQ xs i off): ∃ad,v= .pointer (some ad):=by
 rcases hp with⟨id,i,off,rfl⟩|⟨xs,i,off,rfl⟩
 ·cases h with
  |fJ h=>cases h
  |ptr=>exact⟨_,rfl⟩
  |xy=>exact⟨_,rfl⟩
 ·cases h with
  |fJ h=>cases h;exact⟨_,rfl⟩
theorem De{t:TypeId}{a b:af}{va vb:Value}{r:Bool}(h:Us P t a b=some r)(ha:de E w a va)(hb:de E w b vb)(xo yo:Operand):
  (∀op,(eqGuard op t xo yo va vb).run P w= .ok () w)/\(binOp .eql t va vb).run P w= .ok (.bool r) w/\(binOp .neq t va vb).run P w= .ok (.bool (!r)) w:=by
   have hold: ∀ms,P.underlying t=some (.interface ms)->P.underlying t=some (.interface (P.methodsAt t)):=fun ms h=>by simp[Program.methodsAt,h]
   have Ni: ∀e,P.underlying t=some (.pointer e)->P.underlying t=some (.pointer (P.pointee t)):=fun e h=>by simp[Program.pointee,h]
   unfold Us at h;split at h
   ·rename_i x y;rw[ha.bool,hb.bool];split at h
    ·rename_i hu;cases h
     exact⟨fun op=>by rw[eqGuard_at_bool];rfl,run_eql_bool w t x y hu,run_neq_bool w t x y hu⟩
    ·cases h
   ·rename_i u x;obtain⟨vx,rfl,_⟩:=ha.Av;rw[hb.PI];split at h
    ·rename_i ms hu;cases h
     exact⟨fun op=>by cases op<;>rfl,run_eql_held_nil w t u vx (hold ms hu),run_neq_held_nil w t u vx (hold ms hu)⟩
    ·cases h
   ·rename_i id i off;obtain⟨ad,rfl⟩:=ha.zP (.inl ⟨_,_,_,rfl⟩);rw[hb.L4];split at h
    ·rename_i e hu;cases h
     exact⟨fun op=>by rw[eqGuard_at_pointer];rfl,run_eql_pointer_nil w t _ (Ni e hu),run_neq_pointer_nil w t _ (Ni e hu)⟩
    ·cases h
   ·rename_i xs i off;obtain⟨ad,rfl⟩:=ha.zP (.inr ⟨_,_,_,rfl⟩);rw[hb.L4];split at h
    ·rename_i e hu;cases h
     exact⟨fun op=>by rw[eqGuard_at_pointer];rfl,run_eql_pointer_nil w t _ (Ni e hu),run_neq_pointer_nil w t _ (Ni e hu)⟩
    ·cases h
   ·rw[ha.L4,hb.L4];split at h
    ·rename_i e hu;cases h
     exact⟨fun op=>by rw[eqGuard_at_pointer];rfl,run_eql_pointer_nil w t _ (Ni e hu),run_neq_pointer_nil w t _ (Ni e hu)⟩
    ·cases h
   ·rename_i xs ys;split at h
    ·rename_i fs ks hu hk;obtain⟨vx,rfl,hx⟩:=ha.dE;obtain⟨vy,rfl,hy⟩:=hb.dE;unfold Vo at hk;split at hk
     ·cases hk
     ·rename_i SJ
      have he:(Op.equalIn 10000 t (.agg vx) (.agg vy)).run P w= .ok r w:=
       JI 6 t ks hk 10000 (by omega) _ _ xs ys r h (fun _ _ _=>⟨⟨vx,rfl,hx⟩,vy,rfl,hy⟩) (fun ds Sn hf=>by rw[hu]at Sn;cases Sn;cases hf)
      exact⟨fun op=>run_eqGuard_agg w op t xo yo vx vy (by simpa using SJ),by rw[run_eql_struct,he];rfl,by rw[run_neq_struct,he];rfl⟩
    ·cases h
   ·cases h
theorem vN(t e:TypeId)(a:Option Addr)(l c:Nat)(h:P.underlying t=some (.slice e)):(binOp .eql t (.slice a l c) (.slice none 0 0)).run P w= .ok (.bool a.isNone) w:=by
 simp only[binOp];simp[run_equal_slice_nil w t e a l c h]
theorem Df{y:Operand}(h:Eg y=true):y= .const (.slice none 0 0):=by
 unfold Eg at h;split at h
 ·rfl
 ·cases h
theorem vP{t:TypeId}{a b:af}{va vb:Value}{r:Bool}{xo yo:Operand}(h:xu P t xo yo a b=some r)(ha:de E w a va)(hb:de E w b vb)(hy: ∀c,yo= .const c->vb=c):
  (∀op,(eqGuard op t xo yo va vb).run P w= .ok () w)/\(binOp .eql t va vb).run P w= .ok (.bool r) w/\(binOp .neq t va vb).run P w= .ok (.bool (!r)) w:=by
   unfold xu at h;split at h
   ·rw[ha.PI,hb.PI];split at h
    ·rename_i ms hu;have hold:P.underlying t=some (.interface (P.methodsAt t)):=by simp[Program.methodsAt,hu]
     split at h
     ·rename_i hc;cases h
      refine⟨fun op=>?_,run_eql_nil_nil w t hold,by simpa using run_neq_nil_nil w t hold⟩;cases xo<;>cases yo<;>simp[Ae]at hc<;>cases op<;>simp[eqGuard]
     ·cases h
    ·cases h
   ·rename_i x xs _;split at h
    ·rename_i e hu;split at h
     ·rename_i hn;cases h
      rw[hy _ (Df hn)]
      cases ha with
      |fJ h=>
       cases h with
       |sl _ ad cap s b o vs h1 h2 h3 h4 h5=>
        rw[h1 (by simp)];exact⟨fun op=>by cases op<;>rfl,vN t e _ _ _ hu,run_neq_slice_nil w t e _ _ _ hu⟩
     ·cases h
    ·cases h
   ·cases h
theorem JM{op:BinOp}{t:TypeId}{xo yo:Operand}{a b r:af}{va vb:Value}(h:Af P op t xo yo a b=some r)(ha:de E w a va)(hb:de E w b vb)(hy: ∀c,yo= .const c->vb=c):
  lL P E w (do eqGuard op t xo yo va vb;binOp op t va vb) r:=by
   have fin: ∀{r},(eqGuard op t xo yo va vb).run P w= .ok () w->lL P E w (binOp op t va vb) r->lL P E w (do eqGuard op t xo yo va vb;binOp op t va vb) r:=by
    intro r hg ⟨v,hv,hr⟩;exact⟨v,by rw[aa7,hg];exact hv,hr⟩
   unfold Af at h;split at h
   ·rename_i k x k' y;obtain rfl:=ha.int;obtain rfl:=hb.int;split at h
    ·rename_i hk;subst hk;exact fin (by rw[eqGuard_at_int];rfl) (JK h t)
    ·cases h
   ·rename_i x y;obtain rfl:=ha.str;obtain rfl:=hb.str;exact fin (by rw[eqGuard_at_string];rfl) (JL h t)
   ·rename_i a b _ _;split at h
    ·split at h
     ·rename_i q hq;cases h
      obtain⟨h1,h2,h3⟩:=vP hq ha hb hy;exact fin (h1 _) (lL.bool h2)
     ·simp only[nM]at h;obtain⟨q,hq,rfl⟩:=h;obtain⟨h1,h2,h3⟩:=De hq ha hb xo yo;exact fin (h1 _) (lL.bool h2)
    ·split at h
     ·rename_i q hq;cases h
      obtain⟨h1,h2,h3⟩:=vP hq ha hb hy;exact fin (h1 _) (lL.bool h3)
     ·simp only[nM]at h;obtain⟨q,hq,rfl⟩:=h;obtain⟨h1,h2,h3⟩:=De hq ha hb xo yo;exact fin (h1 _) (lL.bool h3)
    ·cases h
theorem Nj{op:UnOp}{a r:af}{va:Value}(h:Z9 op a=some r)(ha:de E w a va):lL P E w (Op.unary op va) r:=by
 unfold Z9 at h;split at h
 ·cases h;rw[ha.int];exact lL.int rfl
 ·cases h;rw[ha.bool];exact lL.bool rfl
 ·cases h
theorem Nk{f:Value->ByteArray->Sem (ForInStep ByteArray)}(hf: ∀n r,(f (.int .u8 n) r).run P w= .ok (.yield (r.push (UInt8.ofNat n.toNat))) w): ∀(xs:List af)(cs:List Value)(l:List UInt8)(acc:ByteArray),bytesOf xs=some l->xs.length=cs.length->
  (∀(i:Nat)(c:af)(v:Value),xs[i]?=some c->cs[i]?=some v->de E w c v)->(forIn cs acc f).run P w= .ok ⟨acc.data++l.toArray⟩ w:=by
   intro xs
   induction xs with
   |nil=>
    intro cs l acc h hl hr;simp only[bytesOf]at h;cases h
    cases cs with
    |nil=>simp
    |cons c cs=>simp at hl
   |cons x xs ih=>
    intro cs l acc h hl hr
    cases cs with
    |nil=>simp at hl
    |cons c cs=>
     cases x<;>try(simp[bytesOf]at h;done)
     rename_i k n;cases k<;>try(simp[bytesOf]at h;done)
     simp only[bytesOf,nM]at h;obtain⟨l',O8,rfl⟩:=h;have hc:c= .int .u8 n:=(hr 0 _ c rfl rfl).int;subst hc;rw[List.forIn_cons,aa7,hf];simp only[aaE];have:=ih cs l' (acc.push (UInt8.ofNat n.toNat)) O8 (by simpa using hl) (fun i c v hc hv=>hr (i+1) c v (by simpa using hc) (by simpa using hv));rw[this]
     congr 2
     show(acc.data.push _++l'.toArray)=_;apply Array.ext';simp
theorem sJ{h:aG}(s:eG E h w){x:af}{v:Value}{ys:List af}(hx:de E w x v)(he:lN h x=some ys)(SK: ∀q,x≠ .str q):
  ∃a cap,v= .slice a ys.length cap/\ys.length<=cap/\ ∃b o sz,(ys≠[]->a=some ⟨b,o,none⟩)/\(∀y∈ys,y.cells.length=sz)/\ ∀i y,ys[i]?=some y->jO E w b (o+i*sz) y:=by
   unfold lN at he;split at he
   ·cases he
    cases hx with
    |fJ hc=>cases hc with|nil a=>exact⟨a,0,rfl,aah _,0,0,0,fun h=>absurd rfl h,fun y hy=>by simp at hy,fun i y hy=>by simp at hy⟩
   ·cases he
    cases hx with
    |fJ hc=>
     cases hc with
     |sl _ a cap sz b o vs ha gM hs hc hr=>
      refine⟨a,cap,rfl,gM,b,o,sz,ha,hs,fun i y hy j c hj=>?_⟩;obtain⟨h1,h2⟩:=hc i j y c hy hj;exact⟨_,by rw[abI];exact h2,.fJ (hr i j y c hy hj)⟩
   ·rename_i id st len;split at he
    ·rename_i sz es ho;split at he
     ·rename_i hle;cases he
      have hlen:((es.drop st).take len).length=len:=by simp;omega
      cases hx with
      |fJ hc=>cases hc
      |sE _ _ _ a cap hm gM=>
       have:=s.obj id _ _ ho hm
       simp[eO]at this
      |own _ _ _ a cap b jB jz hm gM hh=>
       have hk:=s.obj id _ _ ho hm;simp only[eO]at hk;obtain⟨rfl,eQ,SL,hs,gN⟩:=hk;refine⟨a,cap,by rw[hlen],by rw[hlen];exact gM,b,st*sz,sz,fun mD=>?_,fun y hy=>hs y (List.mem_of_mem_drop (abz hy)),fun i y hy=>?_⟩
       ·rcases hh with⟨h0,_⟩|⟨h1,_⟩
        ·exact absurd (by simp[h0]) mD
        ·exact h1
       ·have hi:i<len:=by
         have:=(aag.1 hy).1;rw[hlen]at this;exact this
        rw[aby,if_pos hi,List.getElem?_drop]at hy;have:=gN _ y hy;rw[Nat.add_mul]at this;exact this
     ·cases he
    ·cases he
   ·rename_i q;exact absurd rfl (SK q)
   ·cases he
theorem Gx: ∀(zs:List af)(l:List UInt8),bytesOf zs=some l-> ∀(i:Nat)(y:af),zs[i]?=some y->y.cells=[y]:=by
 intro zs
 induction zs with
 |nil=>intro l _ i y hy;simp at hy
 |cons z zs ih=>
  intro l hl i y hy;cases z<;>try(simp[bytesOf]at hl;done)
  rename_i k n;cases k<;>try(simp[bytesOf]at hl;done)
  simp only[bytesOf,nM]at hl;obtain⟨l',O8,_⟩:=hl
  cases i with
  |zero=>simp at hy;subst hy;rfl
  |succ i=>exact ih l' O8 i y (by simpa using hy)
theorem Nl{xs:List af}{b o:Nat}(m7: ∀(i:Nat)(y:af),xs[i]?=some y->y.cells=[y])(hc: ∀(i:Nat)(y:af),xs[i]?=some y->jO E w b (o+i*1) y):
  ∃vs:List Value,vs.length=xs.length/\(loadCells ⟨b,o,none⟩ xs.length).run P w= .ok vs.toArray w/\ ∀(i:Nat)(c:af)(v:Value),xs[i]?=some c->vs[i]?=some v->de E w c v:=by
   let vs:List Value:=(List.range xs.length).map fun j=>(w.cell? ⟨b,o+j,none⟩).getD undef
   have hv: ∀j,j<xs.length-> ∃y v,xs[j]?=some y/\w.cell? ⟨b,o+j,none⟩=some v/\de E w y v:=by
    intro j hj;obtain⟨y,hy⟩:=bP hj;obtain⟨v,h1,h2⟩:=hc j y hy 0 y (by rw[m7 j y hy];rfl);exact⟨y,v,hy,by simpa using h1,h2⟩
   have hlen:vs.length=xs.length:=by simp[vs]
   refine⟨vs,hlen,?_,fun i c v uJ qy=>?_⟩
   ·rw[<-hlen];refine run_loadCells_list (P:=P) w ⟨b,o,none⟩ vs fun j v qy=>?_
    have hj:j<xs.length:=by
     have:=(aag.1 qy).1;simpa[vs]using this
    obtain⟨y,u,hy,Xd,_⟩:=hv j hj;rw[Addr.add_mid,Xd];simp[vs,hj,Xd]at qy;rw[qy]
   ·have hj:i<xs.length:=(aag.1 uJ).1;obtain⟨y,u,hy,Xd,hr⟩:=hv i hj;rw[uJ]at hy;cases hy
    simp[vs,hj,Xd]at qy;rw[<-qy];exact hr
theorem Gy{h:aG}(s:eG E h w){a r:af}{va:Value}(hh:Gl a h=some r)(ha:de E w a va):lL P E w (Conv.bytesToString va) r:=by
 have Vs: ∀q,a≠ .str q:=by rintro q rfl;simp[Gl]at hh
 have ZC:(lN h a).bind (fun xs=>(bytesOf xs).map fun l=>af.str ⟨l.toArray⟩)=some r:=by
  cases a<;>first|exact hh|(exact absurd rfl (Vs _))
 simp only[abC,nM]at ZC;obtain⟨xs,he,l,hl,rfl⟩:=ZC;obtain⟨ad,cap,rfl,gM,b,o,sz,aad,jP,gN⟩:=sJ s ha he Vs;have m7:=Gx xs l hl;refine lL.str ?_
 by_cases mD:xs=[]
 ·subst mD;simp[bytesOf]at hl;subst hl
  cases ad with
  |none=>simp[Conv.bytesToString];rfl
  |some ad=>simp[Conv.bytesToString,loadCells,loadCellsFrom];rfl
 ·have XK:sz=1:=by
   obtain⟨x0,xr,rfl⟩:=List.exists_cons_of_ne_nil mD;have:=jP x0 (by simp);rw[m7 0 x0 rfl]at this;simpa using this.symm
  subst XK;rw[aad mD];obtain⟨vs,hlen,hld,hr⟩:=Nl (P:=P) m7 gN;simp only[Conv.bytesToString,aa7,hld,aaE];rw[<-Array.forIn_toList];rw[Nk (P:=P) (E:=E) (w:=w) (fun n r=>by rfl) xs vs l _ hl hlen.symm hr];simp only[aaE,Sem.run_pure]
  congr 2
  simp[ByteArray.empty,ByteArray.emptyWithCapacity]
  try rfl
theorem Gz{h:aG}(s:eG E h w){src dst:TypeId}{a r:af}{va:Value}(hh:Pr P src dst a h=some r)(ha:de E w a va):lL P E w (convert src dst va) r:=by
 unfold Pr at hh;split at hh
 ·rename_i k k' hs hd;split at hh
  ·rename_i q n;cases hh
   rw[ha.int];exact lL.int (by simp[convert,run_underlying hs,run_underlying hd,Conv.intToInt])
  ·cases hh
 ·rename_i hs hd;split at hh
  ·rename_i q;cases hh
   rw[ha.str];exact lL.str (by simp[convert,run_underlying hs,run_underlying hd])
  ·cases hh
 ·rename_i e hs hd;split at hh
  ·rename_i hu;obtain⟨v,hv,hr⟩:=Gy (P:=P) s hh ha;refine⟨v,?_,hr⟩
   have hnp: ∃ad n cap,va= .slice ad n cap:=by
    have Vs: ∀q,a≠ .str q:=by rintro q rfl;simp[Gl]at hh
    have ZC: ∃xs,lN h a=some xs:=by
     cases a<;>first|(simp only[Gl,abC]at hh;obtain⟨xs,hx,_⟩:=hh;exact⟨xs,hx⟩)|(exact absurd rfl (Vs _))
    obtain⟨xs,he⟩:=ZC;obtain⟨ad,cap,O7,_⟩:=sJ s ha he Vs;exact⟨_,_,_,O7⟩
   obtain⟨ad,n,cap,rfl⟩:=hnp;simp only[convert,aa7,run_underlying hs,run_underlying hd,run_underlying hu,aaE];exact hv
  ·cases hh
 ·cases hh
end
end Go.Am

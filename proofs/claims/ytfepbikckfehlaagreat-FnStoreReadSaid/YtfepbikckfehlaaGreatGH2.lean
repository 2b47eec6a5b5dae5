/- Each operation that leaves the memory alone does on values what Am says: the rest of them, and all in one. -/
import Derived.Test.YtfepbikckfehlaaGreatGSBmB
import Derived.WideLaws
import Derived.Laws.Pointers
import Derived.Laws.Small
import Derived.Laws.Cover3
set_option linter.unusedVariables false
set_option linter.unusedSimpArgs false
set_option maxHeartbeats 4000000
namespace Go.Am
open Go
theorem gH{α β:Type}{f:α->Option β}: ∀{l:List α}{r:List β},cp f l=some r->l.length=r.length/\ ∀(i:Nat)(x:α)(y:β),l[i]?=some x->r[i]?=some y->f x=some y:=by
 intro l
 induction l with
 |nil=>intro r h;simp only[cp]at h;cases h;exact⟨rfl,fun i x y hx=>by simp at hx⟩
 |cons a l ih=>
  intro r h;simp only[cp]at h
  cases ha:f a with
  |none=>simp[ha]at h
  |some b=>
   cases hl:cp f l with
   |none=>simp[ha,hl]at h
   |some bs=>
    simp only[ha,hl]at h;cases h
    obtain⟨h1,h2⟩:=ih hl;refine⟨by simp[h1],fun i x y hx hy=>?_⟩
    cases i with
    |zero=>simp at hx hy;subst hx hy;exact ha
    |succ i=>simp at hx hy;exact h2 i x y hx hy
theorem bD{α:Type}{l:List α}{i:Nat}(h:i<l.length): ∃x,l[i]?=some x:=⟨l[i],au h⟩
theorem dQ{α:Type}{l:Array α}{i:Nat}(h:i<l.size): ∃x,l[i]?=some x:=⟨l[i],Array.getElem?_eq_getElem h⟩
theorem En{S:Nat->Prop}{w:World}{v:Value}{a:af}(h:QL v=some a):eA S w a v:=by
 unfold QL at h;split at h<;>first|(cases h;constructor)|cases h
theorem ym{S:Nat->Prop}{w:World}{v:Value}{a:af}(h:XN v=some a):eA S w a v:=by
 unfold XN at h;split at h
 ·rename_i cs;simp only[ai]at h;obtain⟨l,hl,rfl⟩:=h;obtain⟨h1,h2⟩:=gH hl;refine .agg l cs (by simpa using h1.symm) fun i c v hc hv=>En (h2 i v c (by simpa using hv) hc)
 ·exact En h
theorem ck.cells{E:Env}{w:World}{a:af}{v:Value}(h:ck E w a v):a.cells.length=v.cells.size/\ ∀(j:Nat)(c:af),a.cells[j]?=some c-> ∃u,v.cells[j]?=some u/\ck E w c u:=by
 have one: ∀{a v},ck E w a v->a.cells=[a]->v.cells= #[v]->a.cells.length=v.cells.size/\ ∀(j:Nat)(c:af),a.cells[j]?=some c-> ∃u,v.cells[j]?=some u/\ck E w c u:=by
  intro a v h ha hv;rw[ha,hv];refine⟨rfl,fun j c hj=>?_⟩
  cases j with
  |zero=>simp at hj;subst hj;exact⟨v,rfl,h⟩
  |succ j=>simp at hj
 have many: ∀(cs:List af)(vs:Array Value),cs.length=vs.size->(∀(i:Nat)(c:af)(v:Value),cs[i]?=some c->vs[i]?=some v->ck E w c v)->(af.agg cs).cells.length=(Value.agg vs).cells.size/\ ∀(j:Nat)(c:af),(af.agg cs).cells[j]?=some c-> ∃u,(Value.agg vs).cells[j]?=some u/\ck E w c u:=by
  intro cs vs hl hr;refine⟨hl,fun j c hj=>?_⟩;have eH:j<vs.size:=by rw[<-hl];exact(az.1 hj).1
  obtain⟨u,hu⟩:=dQ eH;exact⟨u,hu,hr j c u hj hu⟩
 cases h with
 |eG h=>
  cases h
  case agg cs vs hl hr=>exact many cs vs hl fun i c v hc hv=>.eG (hr i c v hc hv)
  all_goals exact one (.eG (by constructor<;>assumption)) rfl rfl
 |agg cs vs hl hr=>exact many cs vs hl hr
 |own id st len a cap b iC sz hm fI h=>exact one (.own id st len a cap b iC sz hm fI h) rfl rfl
 |ri id st len a cap hm fI=>exact one (.ri id st len a cap hm fI) rfl rfl
 |ptr id i off b iC sz hm=>exact one (.ptr id i off b iC sz hm) rfl rfl
 |vK id i off a hm=>exact one (.vK id i off a hm) rfl rfl
 |map id b hm=>exact one (.map id b hm) rfl rfl
 |Lt id b hm=>exact one (.Lt id b hm) rfl rfl
 |it id b hm=>exact one (.it id b hm) rfl rfl
 |VO id a hm=>exact one (.VO id a hm) rfl rfl
 |dX cs vs hl hr=>exact one (.dX cs vs hl hr) rfl rfl
 |func fn a b va vb Ls El NM NN=>exact one (.func fn a b va vb Ls El NM NN) rfl rfl
 |iface t a v hr=>exact one (.iface t a v hr) rfl rfl
theorem ck.bE{E:Env}{w:World}{a:af}{v:Value}(h:ck E w a v)(hc:a.bE=true):v.oneCell'=true:=by
 cases h with
 |eG h=>cases h<;>first|rfl|cases hc
 |_=>first|rfl|cases hc
def sE(G:Nat->Option af)(S:Nat->Prop)(w:World):Prop:=∀g v,G g=some v->eA S w (.eY [v] 0 0) (.pointer (some ⟨g,0,none⟩))
def kp(E:Env)(w:World)(tm:Nat->af)(a:Act):Prop:=∀k,ck E w (tm k) (a.tmps.getD k undef)
theorem yT{E:Env}{w:World}{G:Nat->Option af}{tm:Nat->af}{a:Act}(hg:sE G E.S w)(ht:kp E w tm a){x:Operand}{v:af}(h:ev G tm x=some v):ck E w v (a.eval x):=by
 cases x with
 |tmp t=>simp only[ev]at h;cases h;exact ht t
 |const c=>exact .eG (ym h)
 |global g=>
  simp only[ev,ai]at h;obtain⟨u,hu,rfl⟩:=h
  exact .eG (hg g u hu)
 |func f=>
  simp only[ev]at h;cases h
  exact .func (.func f) [] [] #[] #[] rfl rfl (fun i c v hc=>by simp at hc) (fun i c v hc=>by simp at hc)
section
variable{P:Program}{E:Env}{w:World}
theorem ck.int{k:IntKind}{n:Int}{v:Value}(h:ck E w (.int k n) v):v= .int k n:=by cases h with|eG h=>cases h;rfl
theorem ck.bool{b:Bool}{v:Value}(h:ck E w (.bool b) v):v= .bool b:=by cases h with|eG h=>cases h;rfl
theorem ck.str{s:ByteArray}{v:Value}(h:ck E w (.str s) v):v= .string s:=by cases h with|eG h=>cases h;rfl
theorem ck.cX{cs:List af}{v:Value}(h:ck E w (.agg cs) v): ∃vs,v= .agg vs/\cs.length=vs.size/\ ∀(i:Nat)(c:af)(v:Value),cs[i]?=some c->vs[i]?=some v->ck E w c v:=by
 cases h with
 |eG h=>cases h with|agg cs vs hl hr=>exact⟨vs,rfl,hl,fun i c v hc hv=>.eG (hr i c v hc hv)⟩
 |agg cs vs hl hr=>exact⟨vs,rfl,hl,hr⟩
theorem ck.QP{cs:List af}{v:Value}(h:ck E w (.dX cs) v): ∃vs,v= .tuple vs/\cs.length=vs.size/\ ∀(i:Nat)(c:af)(v:Value),cs[i]?=some c->vs[i]?=some v->ck E w c v:=by
 cases h with
 |eG h=>cases h with|dX cs vs hl hr=>exact⟨vs,rfl,hl,fun i c v hc hv=>.eG (hr i c v hc hv)⟩
 |dX cs vs hl hr=>exact⟨vs,rfl,hl,hr⟩
theorem rl{t:TypeId}{b:Bool}{n:Nat}(h:TB P t=some (b,n)): ∃d i,P.underlying t=some d/\P.info? t=some i/\q0 d=b/\i.size=n:=by
 unfold TB at h;split at h
 ·rename_i d i hd hi;simp at h;exact⟨d,i,hd,hi,h.1,h.2⟩
 ·cases h
theorem lf{t:TypeId}{d:TypeDesc}(hd:P.underlying t=some d)(w:World):(isAgg t).run P w= .ok (q0 d) w:=by
 unfold isAgg;rw[Sem.run_bind,run_underlying hd w];cases d<;>rfl
theorem pV{t:TypeId}{x r:af}{off b o:Nat}(hx:iP E w b o x)(h:ff P t x off=some r):
  ∃v,(loadVar t ⟨b,o+off,none⟩).run P w= .ok v w/\ck E w r v:=by
   unfold ff at h;split at h
   ·rename_i s hs;obtain⟨d,i,hd,hi,ha,je⟩:=rl hs;split at h
    ·rename_i hle;cases h
     have rm: ∀j,j<s-> ∃v,w.cell? ⟨b,o+off+j,none⟩=some v/\ ∀c,x.cells[off+j]?=some c->ck E w c v:=by
      intro j hj;obtain⟨c,hc⟩:=bD (l:=x.cells) (i:=off+j) (by omega);obtain⟨v,hv,hr⟩:=hx (off+j) c hc;refine⟨v,by rw[Nat.add_assoc];exact hv,fun c' tf=>by rw[hc]at tf;cases tf;exact hr⟩
     let vs:List Value:=(List.range s).map fun j=>(w.cell? ⟨b,o+off+j,none⟩).getD undef
     have sF: ∀j v,vs[j]?=some v->w.cell? ⟨b,o+off+j,none⟩=some v:=by
      intro j v hv
      have hj:j<s:=by
       have:=(az.1 hv).1;simpa[vs]using this
      obtain⟨u,hu,_⟩:=rm j hj;simp[vs,hj,hu]at hv;rw[hu,hv]
     have hlen:vs.length=s:=by simp[vs]
     refine⟨.agg vs.toArray,run_loadVar_mid w b (o+off) t vs d sF hd (by cases d<;>simp_all[q0,TypeDesc.isRow]) (by rw[hi,hlen];simp[je]),?_⟩;refine .agg _ _ (by simp[hlen];omega) fun j c v hc hv=>?_
     have hj:j<s:=by
      have:=(az.1 hc).1;simp at this;omega
     have tf:x.cells[off+j]?=some c:=by
      rw[List.getElem?_take,if_pos hj,List.getElem?_drop]at hc;exact hc
     obtain⟨u,hu,hr⟩:=rm j hj;have:=sF j v (by simpa using hv);rw[hu]at this;cases this
     exact hr c tf
    ·cases h
   ·rename_i s hs;obtain⟨d,i,hd,hi,ha,je⟩:=rl hs;obtain⟨v,hv,hr⟩:=hx off r h;refine⟨v,?_,hr⟩;unfold loadVar;rw[Sem.run_bind,lf hd,Result.andThen_ok,ha];simp[hv]
   ·cases h
theorem QQ{S:Nat->Prop}{xs:List af}{i off:Nat}{v:Value}(h:eA S w (.eY xs i off) v): ∃b o s,v= .pointer (some ⟨b,o+(i*s+off),none⟩)/\ ∀x,xs[i]?=some x->(E.S=S->iP E w b (o+i*s) x):=by
 cases h with
 |eY _ _ _ s b o vs hs hc hr=>
  refine⟨b,o,s,rfl,fun x hx hE j c hj=>?_⟩;subst hE;obtain⟨h1,h2⟩:=hc i j x c hx hj;exact⟨_,by rw[Nat.add_assoc];exact h2,.eG (hr i j x c hx hj)⟩
theorem yU{h:aC}(s:dL E h w){t:TypeId}{a r:af}{va:Value}(ha:ck E w a va)(hl:jq P t a h=some r):
  ∃v,(Instr.loadAt t va).run P w= .ok v w/\ck E w r v:=by
   have fin: ∀(ad:Addr)(v:Value),va= .pointer (some ad)->(loadVar t ad).run P w= .ok v w->(Instr.loadAt t va).run P w= .ok v w:=by
    intro ad v Nh hr;subst Nh;simp only[Instr.loadAt,Instr.sureAddr,Sem.run_bind,Sem.run_pure,Result.andThen_ok,hr]
   unfold jq at hl;split at hl
   ·rename_i id i off
    cases ho:h[id]? with
    |none=>simp[ho]at hl
    |some o=>
     cases ha with
     |eG hc=>cases hc
     |vK _ _ _ ad hm=>
      have:=s.obj id o _ ho hm
      cases o<;>simp only[dR]at this<;>simp[ho]at hl
     |ptr _ _ _ b iC sz hm=>
      have hk:=s.obj id o _ ho hm
      cases o with
      |box x=>
       simp only[dR]at hk;simp only[ho]at hl;split at hl
       ·rename_i hi;subst hi;obtain⟨v,hv,hr⟩:=pV hk.2.2 hl;exact⟨v,fin _ v rfl (by simpa using hv),hr⟩
       ·cases hl
      |arr iz es=>
       simp only[dR]at hk;obtain⟨rfl,dT,hle,hs,fJ⟩:=hk;simp only[ho]at hl
       cases hx:es[i]? with
       |none=>simp[hx]at hl
       |some x=>
        simp only[hx]at hl;obtain⟨v,hv,hr⟩:=pV (fJ i x hx) hl
        exact⟨v,fin _ v rfl hv,hr⟩
      |oX ks vs=>simp[ho]at hl
      |iter q pos=>simp[ho]at hl
      |dead=>simp[ho]at hl
   ·rename_i xs i off
    cases ha with
    |eG hc=>
     obtain⟨b,o,sz,rfl,hx⟩:=QQ (E:=E) hc
     cases Yq:xs[i]? with
     |none=>simp[Yq]at hl
     |some x=>
      simp only[Yq]at hl;obtain⟨v,hv,hr⟩:=pV (hx x Yq rfl) hl;exact⟨v,fin _ v rfl (by rw[<-Nat.add_assoc];exact hv),hr⟩
   ·cases hl
theorem yV{t:TypeId}{cs:List af}{vs:Array Value}{off:Nat}{r:af}(hl:cs.length=vs.size)(hr: ∀(i:Nat)(c:af)(v:Value),cs[i]?=some c->vs[i]?=some v->ck E w c v)
  (h:ff P t (.agg cs) off=some r): ∃v,(part t vs off).run P w= .ok v w/\ck E w r v:=by
   unfold ff at h;split at h
   ·rename_i s hs;obtain⟨d,i,hd,hi,ha,je⟩:=rl hs;split at h
    ·rename_i hle;cases h
     simp only[af.cells]at hle⊢;refine⟨.agg (vs.extract off (off+s)),?_,?_⟩
     ·unfold part;rw[Sem.run_bind,lf hd,Result.andThen_ok,ha];simp[sizeOf,typeInfo,hi,je]
     ·refine .agg _ _ (by simp;omega) fun j c v hc hv=>?_
      have hj:j<s:=by
       have:=(az.1 hc).1;simp at this;omega
      rw[List.getElem?_take,if_pos hj,List.getElem?_drop]at hc;rw[Array.getElem?_extract]at hv;split at hv
      ·exact hr _ c v hc hv
      ·cases hv
    ·cases h
   ·rename_i s hs;obtain⟨d,i,hd,hi,ha,je⟩:=rl hs;simp only[af.cells]at h;have eH:off<vs.size:=by rw[<-hl];exact(az.1 h).1
    obtain⟨v,hv⟩:=dQ eH;refine⟨v,?_,hr off r v h hv⟩;unfold part;rw[Sem.run_bind,lf hd,Result.andThen_ok,ha];simp[hv]
   ·cases h
theorem Eo{t:TypeId}{x r:af}{v:Value}{f:Nat}(hx:ck E w x v)(h:HJ P t x f=some r): ∃u,(Instr.field t v f).run P w= .ok u w/\ck E w r u:=by
 unfold HJ at h;split at h
 ·rename_i cs off ft hf;obtain⟨vs,rfl,hl,hr⟩:=hx.cX;obtain⟨u,hu,vM⟩:=yV hl hr h;refine⟨u,?_,vM⟩;unfold VM at hf;split at hf
  ·rename_i fs QR;simp only[ai]at hf;obtain⟨fd,VP,he⟩:=hf;cases he
   simp[Instr.field,run_underlying QR,VP,asAgg,hu]
  ·cases hf
 ·cases h
theorem qL{sT f k:Nat}{x:af}{v:Value}(hk:TC P sT f=some k)(hx:ck E w x v):
  (∀id i off,x= .ptr id i off-> ∃u,(Instr.fieldAt sT v f).run P w= .ok u w/\ck E w (.ptr id i (off+k)) u)/\
  (∀xs i off,x= .eY xs i off-> ∃u,(Instr.fieldAt sT v f).run P w= .ok u w/\ck E w (.eY xs i (off+k)) u):=by
   have run: ∀ad:Addr,v= .pointer (some ad)->(Instr.fieldAt sT v f).run P w= .ok (.pointer (some (ad.add k))) w:=by
    intro ad hv;subst hv;unfold TC at hk;split at hk
    ·rename_i fs hu
     cases hf:fs[f]? with
     |none=>simp[hf]at hk
     |some fd=>
      cases hi:P.info? fd.type with
      |none=>simp[hf,hi]at hk
      |some i=>
       simp only[hf,hi]at hk;split at hk
       ·cases hk
       ·rename_i h0;cases hk
        simp[Instr.fieldAt,run_underlying hu,hf,Instr.sureAddr,fieldPlace,sizeOf,typeInfo,hi,h0]
    ·cases hk
   refine⟨fun id i off he=>?_,fun xs i off he=>?_⟩
   ·subst he
    cases hx with
    |eG hc=>cases hc
    |ptr _ _ _ b iC sz hm=>exact⟨_,run _ rfl,by rw[Addr.add_mid,Nat.add_assoc];exact .ptr id i (off+k) b iC sz hm⟩
    |vK _ _ _ ad hm=>exact⟨_,run _ rfl,.vK id i (off+k) _ hm⟩
   ·subst he
    cases hx with
    |eG hc=>
     cases hc with
     |eY _ _ _ s b o vs hs hc hr=>exact⟨_,run _ rfl,by rw[Addr.add_mid,Nat.add_assoc,Nat.add_assoc];exact .eG (.eY xs i (off+k) s b o vs hs hc hr)⟩
end
end Go.Am
set_option maxHeartbeats 4000000
namespace Go.Am
open Go
section
variable{P:Program}{E:Env}{w:World}
def NR(E:Env)(w:World)(cs:List af)(vs:Array Value):Prop:=cs.length=vs.size/\ ∀(i:Nat)(c:af)(v:Value),cs[i]?=some c->vs[i]?=some v->ck E w c v
theorem yW: ∀(l ks:List FK)(x1 x2 y1 y2:List af),x1.length=l.length->y1.length=l.length-> ∀r,ez (l++ks) (x1++x2) (y1++y2)=some r->
  ∃r1 r2,ez l x1 y1=some r1/\ez ks x2 y2=some r2/\r=(r1&&r2):=by
   intro l
   induction l with
   |nil=>
    intro ks x1 x2 y1 y2 h1 h2 r h;simp at h1 h2;subst h1 h2
    exact⟨true,r,rfl,h,rfl⟩
   |cons k l ih=>
    intro ks x1 x2 y1 y2 h1 h2 r h
    cases x1 with
    |nil=>simp at h1
    |cons a x1=>
     cases y1 with
     |nil=>simp at h2
     |cons b y1=>
      have NS:x1.length=l.length:=by simpa using h1
      have BF:y1.length=l.length:=by simpa using h2
      simp only[List.cons_append]at h;cases k<;>cases a<;>cases b<;>simp only[ez]at h<;>try(cases h;done)
      ·rename_i ka a kb b;split at h
       ·rename_i hk;simp only[ai]at h;obtain⟨q,hq,rfl⟩:=h;obtain⟨r1,r2,e1,e2,rfl⟩:=ih ks x1 x2 y1 y2 NS BF q hq;exact⟨(a==b&&r1),r2,by simp only[ez];rw[if_pos hk,e1];rfl,e2,by simp[Bool.and_assoc]⟩
       ·cases h
      all_goals
       rename_i a b;simp only[ai]at h;obtain⟨q,hq,rfl⟩:=h;obtain⟨r1,r2,e1,e2,rfl⟩:=ih ks x1 x2 y1 y2 NS BF q hq;exact⟨(a==b&&r1),r2,by simp only[ez];rw[e1];rfl,e2,by simp[Bool.and_assoc]⟩
theorem Ep: ∀(ks:List FK)(xs ys:List af)(r:Bool),ez ks xs ys=some r->xs.length=ks.length/\ys.length=ks.length:=by
 intro ks
 induction ks with
 |nil=>intro xs ys r h;cases xs<;>cases ys<;>simp[ez]at h⊢
 |cons k ks ih=>
  intro xs ys r h
  cases xs with
  |nil=>cases k<;>simp[ez]at h
  |cons x xs=>
   cases ys with
   |nil=>cases k<;>cases x<;>simp[ez]at h
   |cons y ys=>
    cases k<;>cases x<;>cases y<;>simp only[ez]at h<;>try cases h
    ·split at h
     ·simp only[ai]at h;obtain⟨q,hq,_⟩:=h;simpa using ih _ _ _ hq
     ·cases h
    all_goals(simp only[ai]at h;obtain⟨q,hq,_⟩:=h;simpa using ih _ _ _ hq)
theorem NR.part{xs:List af}{vs:Array Value}(h:NR E w xs vs)(off n:Nat)(hle:off+n<=xs.length):NR E w ((xs.drop off).take n) (vs.extract off (off+n)):=by
 refine⟨by simp;have:=h.1;omega,fun i c v hc hv=>?_⟩
 have hi:i<n:=by
  have:=(az.1 hc).1;simp at this;omega
 rw[List.getElem?_take,if_pos hi,List.getElem?_drop]at hc;rw[Array.getElem?_extract]at hv;split at hv
 ·exact h.2 _ c v hc hv
 ·cases hv
theorem HO: ∀(n:Nat)(t:TypeId)(ks:List FK),sQ P n t=some ks-> ∀(d:Nat),n<=d-> ∀(x y:Value)(xs ys:List af)(r:Bool),ez ks xs ys=some r->
  (∀ds,P.underlying t=some ds->q0 ds=true->(∃vx,x= .agg vx/\NR E w xs vx)/\ ∃vy,y= .agg vy/\NR E w ys vy)->
  (∀ds,P.underlying t=some ds->q0 ds=false->(∃a,xs=[a]/\ck E w a x)/\ ∃b,ys=[b]/\ck E w b y)->(Op.equalIn d t x y).run P w= .ok r w:=by
   intro n
   induction n with
   |zero=>intro t ks h;simp[sQ]at h
   |succ n ih=>
    intro t ks h d hd x y xs ys r hr TF lJ;obtain⟨d,rfl⟩: ∃e,d=e+1:=⟨d-1,by omega⟩;simp only[sQ]at h
    cases hu:P.underlying t with
    |none=>simp[hu]at h
    |some ds=>
     cases ds
     case bool=>
      simp only[hu]at h;cases h
      obtain⟨⟨a,rfl,ha⟩,b,rfl,hb⟩:=lJ _ hu rfl;cases a<;>cases b<;>simp[ez]at hr
      subst hr;rw[ha.bool,hb.bool];exact run_equalIn_bool' w d t _ _ hu
     case int k=>
      simp only[hu]at h;cases h
      obtain⟨⟨a,rfl,ha⟩,b,rfl,hb⟩:=lJ _ hu rfl;cases a<;>cases b<;>simp[ez]at hr
      obtain⟨rfl,rfl⟩:=hr;rw[ha.int,hb.int];exact run_equalIn_int w d t _ k _ _ hu
     case string=>
      simp only[hu]at h;cases h
      obtain⟨⟨a,rfl,ha⟩,b,rfl,hb⟩:=lJ _ hu rfl;cases a<;>cases b<;>simp[ez]at hr
      subst hr;rw[ha.str,hb.str,run_equalIn_string w d t _ _ hu,beq_toListBytes]
     case struct fs=>
      simp only[hu]at h;obtain⟨⟨vx,rfl,hx⟩,vy,rfl,hy⟩:=TF _ hu rfl;split at h
      ·cases h
      ·rename_i cY;have HP:P.fieldsOf t=fs:=by simp[Program.fieldsOf,hu]
       rw[run_equalIn_struct w d t vx vy (by rw[HP];exact hu) (by simpa using cY),HP];obtain⟨hlx,hly⟩:=Ep _ _ _ _ hr
       have key: ∀(l:List Field)(off:Nat)(ks:List FK),yH (sQ P n) P l off=some ks->off+ks.length<=xs.length->off+ks.length<=ys.length->
         ∀r,ez ks ((xs.drop off).take ks.length) ((ys.drop off).take ks.length)=some r->(Op.eqFields d vx vy l).run P w= .ok r w:=by
          intro l
          induction l with
          |nil=>
           intro off ks hk h1 h2 r hr;simp only[yH]at hk;cases hk
           simp[ez]at hr;subst hr
           rfl
          |cons f l VQ=>
           intro off ks hk h1 h2 r hr;simp only[yH]at hk
           cases xa:sQ P n f.type with
           |none=>simp[xa]at hk
           |some kf=>
            cases hi:P.info? f.type with
            |none=>simp[xa,hi]at hk
            |some i=>
             simp only[xa,hi]at hk;split at hk
             ·rename_i hc;obtain⟨Yr,QS,je⟩:=hc;simp only[ai]at hk;obtain⟨k2,jf,rfl⟩:=hk;simp only[List.length_append]at h1 h2 hr
              have cut: ∀zs:List af,(zs.drop off).take (kf.length+k2.length)=(zs.drop off).take kf.length++(zs.drop (off+kf.length)).take k2.length:=by
               intro zs;rw[List.take_add,List.drop_drop]
              rw[cut,cut]at hr;obtain⟨r1,r2,e1,e2,rfl⟩:=yW kf k2 _ _ _ _ (by simp;omega) (by simp;omega) r hr;have yX:=VQ (off+kf.length) k2 jf (by omega) (by omega) r2 e2
              have Er: ∃a b,(part f.type vx f.offset).run P w= .ok a w/\(part f.type vy f.offset).run P w= .ok b w/\(Op.equalIn d f.type a b).run P w= .ok r1 w:=by
               cases SB:P.underlying f.type with
               |none=>cases n<;>simp[sQ,SB]at xa
               |some df=>
                cases TG:q0 df with
                |true=>
                 refine⟨.agg (vx.extract off (off+kf.length)),.agg (vy.extract off (off+kf.length)),?_,?_,?_⟩
                 ·unfold part;rw[Sem.run_bind,lf SB,Result.andThen_ok,TG];simp[sizeOf,typeInfo,hi,je,QS]
                 ·unfold part;rw[Sem.run_bind,lf SB,Result.andThen_ok,TG];simp[sizeOf,typeInfo,hi,je,QS]
                 ·exact ih f.type kf xa d (by omega) _ _ _ _ r1 e1 (fun ds QA _=>⟨⟨_,rfl,hx.part off kf.length (by omega)⟩,_,rfl,hy.part off kf.length (by omega)⟩)
                   (fun ds QA hf=>by rw[SB]at QA;cases QA;rw[TG]at hf;cases hf)
                |false=>
                 have lJ:kf.length=1:=by
                  cases n with
                  |zero=>simp[sQ]at xa
                  |succ n=>
                   simp only[sQ,SB]at xa;cases df<;>simp[q0]at TG<;>simp at xa<;>subst xa<;>rfl
                 obtain⟨a,ha⟩:=bD (l:=xs) (i:=off) (by omega);obtain⟨b,hb⟩:=bD (l:=ys) (i:=off) (by omega);obtain⟨va,Nh⟩:=dQ (l:=vx) (i:=off) (by have:=hx.1;omega);obtain⟨vb,Vf⟩:=dQ (l:=vy) (i:=off) (by have:=hy.1;omega);refine⟨va,vb,?_,?_,?_⟩
                 ·unfold part;rw[Sem.run_bind,lf SB,Result.andThen_ok,TG];simp[QS,Nh]
                 ·unfold part;rw[Sem.run_bind,lf SB,Result.andThen_ok,TG];simp[QS,Vf]
                 ·have t1: ∀(zs:List af) z,zs[off]?=some z->(zs.drop off).take kf.length=[z]:=by
                   intro zs z hz;rw[lJ,List.take_one,List.head?_drop,hz];rfl
                  rw[t1 xs a ha,t1 ys b hb]at e1
                  exact ih f.type kf xa d (by omega) _ _ _ _ r1 e1 (fun ds QA hf=>by rw[SB]at QA;cases QA;rw[TG]at hf;cases hf)
                   (fun ds QA _=>⟨⟨a,rfl,hx.2 off a va ha Nh⟩,b,rfl,hy.2 off b vb hb Vf⟩)
              obtain⟨a,b,p1,p2,p3⟩:=Er;simp only[Op.eqFields,if_pos Yr,Sem.run_bind,p1,p2,p3,Result.andThen_ok,Sem.run_ite];cases r1
              ·simp
              ·simpa using yX
             ·cases hk
       refine key fs.toList 0 ks h (by omega) (by omega) r ?_;rw[List.drop_zero,List.drop_zero,<-hlx,aS,hlx,<-hly,aS];exact hr
     all_goals(simp only[hu]at h;cases h)
theorem HQ{op:BinOp}{k:IntKind}{a b:Int}{r:af}(h:NA op k a b=some r)(t:TypeId): ∃v,(binOp op t (.int k a) (.int k b)).run P w= .ok v w/\ck E w r v:=by
 have int: ∀n,∃v,(Result.ok (Value.int k n) w:Result Value)= .ok v w/\ck E w (.int k n) v:=fun n=>⟨_,rfl,.eG (.int k n)⟩;have bl: ∀n,∃v,(Result.ok (Value.bool n) w:Result Value)= .ok v w/\ck E w (.bool n) v:=fun n=>⟨_,rfl,.eG (.bool n)⟩;have hk: ¬k≠k:=fun e=>e rfl;cases op<;>simp only[NA]at h<;>try(cases h;done)
 case add=>cases h;simp only[binOp,Op.intArith,if_neg hk];exact int _
 case sub=>cases h;simp only[binOp,Op.intArith,if_neg hk];exact int _
 case mul=>cases h;simp only[binOp,Op.intArith,if_neg hk];exact int _
 case quo=>split at h<;>cases h;rename_i hb;simp only[binOp,Op.intDiv,if_neg hk,if_neg hb];exact int _
 case rem=>split at h<;>cases h;rename_i hb;simp only[binOp,Op.intDiv,if_neg hk,if_neg hb];exact int _
 case and=>cases h;simp only[binOp,Op.intBits,if_neg hk];exact int _
 case or=>cases h;simp only[binOp,Op.intBits,if_neg hk];exact int _
 case xor=>cases h;simp only[binOp,Op.intBits,if_neg hk];exact int _
 case eql=>cases h;simp only[binOp,Op.intCmp,if_neg hk];exact bl _
 case neq=>cases h;simp only[binOp,Op.intCmp,if_neg hk];exact bl _
 case lss=>cases h;simp only[binOp,Op.intCmp,if_neg hk];exact bl _
 case leq=>cases h;simp only[binOp,Op.intCmp,if_neg hk];exact bl _
 case gtr=>cases h;simp only[binOp,Op.intCmp,if_neg hk];exact bl _
 case geq=>cases h;simp only[binOp,Op.intCmp,if_neg hk];exact bl _
 case shr=>split at h<;>cases h;rename_i hb;simp only[binOp,Op.shift,if_neg hb];exact int _
end
end Go.Am
set_option maxHeartbeats 4000000
namespace Go.Am
open Go
section
variable{P:Program}{E:Env}{w:World}
def j9(P:Program)(E:Env)(w:World)(x:Sem Value)(r:af):Prop:=∃v,x.run P w= .ok v w/\ck E w r v
theorem j9.int{x:Sem Value}{k:IntKind}{n:Int}(h:x.run P w= .ok (.int k n) w):j9 P E w x (.int k n):=⟨_,h,.eG (.int k n)⟩
theorem j9.bool{x:Sem Value}{b:Bool}(h:x.run P w= .ok (.bool b) w):j9 P E w x (.bool b):=⟨_,h,.eG (.bool b)⟩
theorem j9.str{x:Sem Value}{b:ByteArray}(h:x.run P w= .ok (.string b) w):j9 P E w x (.str b):=⟨_,h,.eG (.str b)⟩
theorem HR{op:BinOp}{a b:ByteArray}{r:af}(h:QM op a b=some r)(t:TypeId):j9 P E w (binOp op t (.string a) (.string b)) r:=by
 cases op<;>simp only[QM]at h<;>try(cases h;done)
 case add=>
  split at h<;>cases h
  rename_i hl;refine j9.str ?_
  have hn: ¬((a.size+b.size:Nat):Int)>IntKind.i64.max:=by
   rw[IntKind.max_i64];unfold br at hl;omega
  simp only[binOp,Op.stringOp,if_neg hn];rfl
 case eql=>cases h;exact j9.bool (by simp only[binOp,Op.stringOp];rfl)
 case neq=>cases h;exact j9.bool (by simp only[binOp,Op.stringOp];rfl)
 case lss=>cases h;exact j9.bool (by simp only[binOp,Op.stringOp];rfl)
theorem ck.NT{v:Value}(h:ck E w .pO v):v= .nilIface:=by cases h with|eG h=>cases h;rfl
theorem ck.Kc{v:Value}(h:ck E w .qZ v):v= .pointer none:=by cases h with|eG h=>cases h;rfl
theorem ck.yY{t:TypeId}{a:af}{v:Value}(h:ck E w (.iface t a) v): ∃u,v= .iface t u/\ck E w a u:=by
 cases h with
 |eG h=>cases h with|iface _ _ u hr=>exact⟨u,rfl,.eG hr⟩
 |iface _ _ u hr=>exact⟨u,rfl,hr⟩
theorem ck.yn{a:af}{v:Value}(h:ck E w a v)(hp:(∃id i off,a= .ptr id i off)∨ ∃xs i off,a= .eY xs i off): ∃ad,v= .pointer (some ad):=by
 rcases hp with⟨id,i,off,rfl⟩|⟨xs,i,off,rfl⟩
 ·cases h with
  |eG h=>cases h
  |ptr=>exact⟨_,rfl⟩
  |vK=>exact⟨_,rfl⟩
 ·cases h with
  |eG h=>cases h;exact⟨_,rfl⟩
theorem BG{t:TypeId}{a b:af}{va vb:Value}{r:Bool}(h:Sz P t a b=some r)(ha:ck E w a va)(hb:ck E w b vb)(xo yo:Operand):
  (∀op,(eqGuard op t xo yo va vb).run P w= .ok () w)/\(binOp .eql t va vb).run P w= .ok (.bool r) w/\(binOp .neq t va vb).run P w= .ok (.bool (!r)) w:=by
   have hold: ∀ms,P.underlying t=some (.interface ms)->P.underlying t=some (.interface (P.methodsAt t)):=fun ms h=>by simp[Program.methodsAt,h]
   have Lu: ∀e,P.underlying t=some (.pointer e)->P.underlying t=some (.pointer (P.pointee t)):=fun e h=>by simp[Program.pointee,h]
   unfold Sz at h;split at h
   ·rename_i x y;rw[ha.bool,hb.bool];split at h
    ·rename_i hu;cases h
     exact⟨fun op=>by rw[eqGuard_at_bool];rfl,run_eql_bool w t x y hu,run_neq_bool w t x y hu⟩
    ·cases h
   ·rename_i u x;obtain⟨vx,rfl,_⟩:=ha.yY;rw[hb.NT];split at h
    ·rename_i ms hu;cases h
     exact⟨fun op=>by cases op<;>rfl,run_eql_held_nil w t u vx (hold ms hu),run_neq_held_nil w t u vx (hold ms hu)⟩
    ·cases h
   ·rename_i id i off;obtain⟨ad,rfl⟩:=ha.yn (.inl ⟨_,_,_,rfl⟩);rw[hb.Kc];split at h
    ·rename_i e hu;cases h
     exact⟨fun op=>by rw[eqGuard_at_pointer];rfl,run_eql_pointer_nil w t _ (Lu e hu),run_neq_pointer_nil w t _ (Lu e hu)⟩
    ·cases h
   ·rename_i xs i off;obtain⟨ad,rfl⟩:=ha.yn (.inr ⟨_,_,_,rfl⟩);rw[hb.Kc];split at h
    ·rename_i e hu;cases h
     exact⟨fun op=>by rw[eqGuard_at_pointer];rfl,run_eql_pointer_nil w t _ (Lu e hu),run_neq_pointer_nil w t _ (Lu e hu)⟩
    ·cases h
   ·rw[ha.Kc,hb.Kc];split at h
    ·rename_i e hu;cases h
     exact⟨fun op=>by rw[eqGuard_at_pointer];rfl,run_eql_pointer_nil w t _ (Lu e hu),run_neq_pointer_nil w t _ (Lu e hu)⟩
    ·cases h
   ·rename_i xs ys;split at h
    ·rename_i fs ks hu hk;obtain⟨vx,rfl,hx⟩:=ha.cX;obtain⟨vy,rfl,hy⟩:=hb.cX;unfold TD at hk;split at hk
     ·cases hk
     ·rename_i QT
      have he:(Op.equalIn 10000 t (.agg vx) (.agg vy)).run P w= .ok r w:=
       HO 6 t ks hk 10000 (by omega) _ _ xs ys r h (fun _ _ _=>⟨⟨vx,rfl,hx⟩,vy,rfl,hy⟩) (fun ds QA hf=>by rw[hu]at QA;cases QA;cases hf)
      exact⟨fun op=>run_eqGuard_agg w op t xo yo vx vy (by simpa using QT),by rw[run_eql_struct,he];rfl,by rw[run_neq_struct,he];rfl⟩
    ·cases h
   ·cases h
theorem ud(t e:TypeId)(a:Option Addr)(l c:Nat)(h:P.underlying t=some (.slice e)):(binOp .eql t (.slice a l c) (.slice none 0 0)).run P w= .ok (.bool a.isNone) w:=by
 simp only[binOp];simp[run_equal_slice_nil w t e a l c h]
theorem BH{y:Operand}(h:CC y=true):y= .const (.slice none 0 0):=by
 unfold CC at h;split at h
 ·rfl
 ·cases h
theorem ue{t:TypeId}{a b:af}{va vb:Value}{r:Bool}{xo yo:Operand}(h:vH P t xo yo a b=some r)(ha:ck E w a va)(hb:ck E w b vb)(hy: ∀c,yo= .const c->vb=c):
  (∀op,(eqGuard op t xo yo va vb).run P w= .ok () w)/\(binOp .eql t va vb).run P w= .ok (.bool r) w/\(binOp .neq t va vb).run P w= .ok (.bool (!r)) w:=by
   unfold vH at h;split at h
   ·rw[ha.NT,hb.NT];split at h
    ·rename_i ms hu;have hold:P.underlying t=some (.interface (P.methodsAt t)):=by simp[Program.methodsAt,hu]
     split at h
     ·rename_i hc;cases h
      refine⟨fun op=>?_,run_eql_nil_nil w t hold,by simpa using run_neq_nil_nil w t hold⟩;cases xo<;>cases yo<;>simp[yI]at hc<;>cases op<;>simp[eqGuard]
     ·cases h
    ·cases h
   ·rename_i x xs _;split at h
    ·rename_i e hu;split at h
     ·rename_i hn;cases h
      rw[hy _ (BH hn)]
      cases ha with
      |eG h=>
       cases h with
       |sl _ ad cap s b o vs h1 h2 h3 h4 h5=>
        rw[h1 (by simp)];exact⟨fun op=>by cases op<;>rfl,ud t e _ _ _ hu,run_neq_slice_nil w t e _ _ _ hu⟩
     ·cases h
    ·cases h
   ·cases h
theorem HS{op:BinOp}{t:TypeId}{xo yo:Operand}{a b r:af}{va vb:Value}(h:yJ P op t xo yo a b=some r)(ha:ck E w a va)(hb:ck E w b vb)(hy: ∀c,yo= .const c->vb=c):
  j9 P E w (do eqGuard op t xo yo va vb;binOp op t va vb) r:=by
   have fin: ∀{r},(eqGuard op t xo yo va vb).run P w= .ok () w->j9 P E w (binOp op t va vb) r->j9 P E w (do eqGuard op t xo yo va vb;binOp op t va vb) r:=by
    intro r hg ⟨v,hv,hr⟩;exact⟨v,by rw[Sem.run_bind,hg];exact hv,hr⟩
   unfold yJ at h;split at h
   ·rename_i k x k' y;obtain rfl:=ha.int;obtain rfl:=hb.int;split at h
    ·rename_i hk;subst hk;exact fin (by rw[eqGuard_at_int];rfl) (HQ h t)
    ·cases h
   ·rename_i x y;obtain rfl:=ha.str;obtain rfl:=hb.str;exact fin (by rw[eqGuard_at_string];rfl) (HR h t)
   ·rename_i a b _ _;split at h
    ·split at h
     ·rename_i q hq;cases h
      obtain⟨h1,h2,h3⟩:=ue hq ha hb hy;exact fin (h1 _) (j9.bool h2)
     ·simp only[ai]at h;obtain⟨q,hq,rfl⟩:=h;obtain⟨h1,h2,h3⟩:=BG hq ha hb xo yo;exact fin (h1 _) (j9.bool h2)
    ·split at h
     ·rename_i q hq;cases h
      obtain⟨h1,h2,h3⟩:=ue hq ha hb hy;exact fin (h1 _) (j9.bool h3)
     ·simp only[ai]at h;obtain⟨q,hq,rfl⟩:=h;obtain⟨h1,h2,h3⟩:=BG hq ha hb xo yo;exact fin (h1 _) (j9.bool h3)
    ·cases h
theorem Lv{op:UnOp}{a r:af}{va:Value}(h:Yo op a=some r)(ha:ck E w a va):j9 P E w (Op.unary op va) r:=by
 unfold Yo at h;split at h
 ·cases h;rw[ha.int];exact j9.int rfl
 ·cases h;rw[ha.bool];exact j9.bool rfl
 ·cases h
theorem Lw{f:Value->ByteArray->Sem (ForInStep ByteArray)}(hf: ∀n r,(f (.int .u8 n) r).run P w= .ok (.yield (r.push (UInt8.ofNat n.toNat))) w): ∀(xs:List af)(cs:List Value)(l:List UInt8)(acc:ByteArray),bytesOf xs=some l->xs.length=cs.length->
  (∀(i:Nat)(c:af)(v:Value),xs[i]?=some c->cs[i]?=some v->ck E w c v)->(forIn cs acc f).run P w= .ok ⟨acc.data++l.toArray⟩ w:=by
   intro xs
   induction xs with
   |nil=>
    intro cs l acc h hl hr;simp only[bytesOf]at h;cases h
    cases cs with
    |nil=>simp
    |cons c cs=>simp at hl
   |cons x xs ih=>
    intro cs l acc h hl hr
    cases cs with
    |nil=>simp at hl
    |cons c cs=>
     cases x<;>try(simp[bytesOf]at h;done)
     rename_i k n;cases k<;>try(simp[bytesOf]at h;done)
     simp only[bytesOf,ai]at h;obtain⟨l',Ni,rfl⟩:=h;have hc:c= .int .u8 n:=(hr 0 _ c rfl rfl).int;subst hc;rw[List.forIn_cons,Sem.run_bind,hf];simp only[Result.andThen_ok];have:=ih cs l' (acc.push (UInt8.ofNat n.toNat)) Ni (by simpa using hl) (fun i c v hc hv=>hr (i+1) c v (by simpa using hc) (by simpa using hv));rw[this]
     congr 2
     show(acc.data.push _++l'.toArray)=_;apply Array.ext';simp
theorem rp{h:aC}(s:dL E h w){x:af}{v:Value}{ys:List af}(hx:ck E w x v)(he:kh h x=some ys)(QU: ∀q,x≠ .str q):
  ∃a cap,v= .slice a ys.length cap/\ys.length<=cap/\ ∃b o sz,(ys≠[]->a=some ⟨b,o,none⟩)/\(∀y∈ys,y.cells.length=sz)/\ ∀i y,ys[i]?=some y->iP E w b (o+i*sz) y:=by
   unfold kh at he;split at he
   ·cases he
    cases hx with
    |eG hc=>cases hc with|nil a=>exact⟨a,0,rfl,aB _,0,0,0,fun h=>absurd rfl h,fun y hy=>by simp at hy,fun i y hy=>by simp at hy⟩
   ·cases he
    cases hx with
    |eG hc=>
     cases hc with
     |sl _ a cap sz b o vs ha fI hs hc hr=>
      refine⟨a,cap,rfl,fI,b,o,sz,ha,hs,fun i y hy j c hj=>?_⟩;obtain⟨h1,h2⟩:=hc i j y c hy hj;exact⟨_,by rw[Nat.add_assoc];exact h2,.eG (hr i j y c hy hj)⟩
   ·rename_i id st len;split at he
    ·rename_i sz es ho;split at he
     ·rename_i hle;cases he
      have hlen:((es.drop st).take len).length=len:=by simp;omega
      cases hx with
      |eG hc=>cases hc
      |ri _ _ _ a cap hm fI=>
       have:=s.obj id _ _ ho hm
       simp[dR]at this
      |own _ _ _ a cap b iC iz hm fI hh=>
       have hk:=s.obj id _ _ ho hm;simp only[dR]at hk;obtain⟨rfl,dT,QV,hs,fJ⟩:=hk;refine⟨a,cap,by rw[hlen],by rw[hlen];exact fI,b,st*sz,sz,fun kY=>?_,fun y hy=>hs y (List.mem_of_mem_drop (List.mem_of_mem_take hy)),fun i y hy=>?_⟩
       ·rcases hh with⟨h0,_⟩|⟨h1,_⟩
        ·exact absurd (by simp[h0]) kY
        ·exact h1
       ·have hi:i<len:=by
         have:=(az.1 hy).1;rw[hlen]at this;exact this
        rw[List.getElem?_take,if_pos hi,List.getElem?_drop]at hy;have:=fJ _ y hy;rw[Nat.add_mul]at this;exact this
     ·cases he
    ·cases he
   ·rename_i q;exact absurd rfl (QU q)
   ·cases he
theorem Es: ∀(zs:List af)(l:List UInt8),bytesOf zs=some l-> ∀(i:Nat)(y:af),zs[i]?=some y->y.cells=[y]:=by
 intro zs
 induction zs with
 |nil=>intro l _ i y hy;simp at hy
 |cons z zs ih=>
  intro l hl i y hy;cases z<;>try(simp[bytesOf]at hl;done)
  rename_i k n;cases k<;>try(simp[bytesOf]at hl;done)
  simp only[bytesOf,ai]at hl;obtain⟨l',Ni,_⟩:=hl
  cases i with
  |zero=>simp at hy;subst hy;rfl
  |succ i=>exact ih l' Ni i y (by simpa using hy)
theorem Lx{xs:List af}{b o:Nat}(lJ: ∀(i:Nat)(y:af),xs[i]?=some y->y.cells=[y])(hc: ∀(i:Nat)(y:af),xs[i]?=some y->iP E w b (o+i*1) y):
  ∃vs:List Value,vs.length=xs.length/\(loadCells ⟨b,o,none⟩ xs.length).run P w= .ok vs.toArray w/\ ∀(i:Nat)(c:af)(v:Value),xs[i]?=some c->vs[i]?=some v->ck E w c v:=by
   let vs:List Value:=(List.range xs.length).map fun j=>(w.cell? ⟨b,o+j,none⟩).getD undef
   have hv: ∀j,j<xs.length-> ∃y v,xs[j]?=some y/\w.cell? ⟨b,o+j,none⟩=some v/\ck E w y v:=by
    intro j hj;obtain⟨y,hy⟩:=bD hj;obtain⟨v,h1,h2⟩:=hc j y hy 0 y (by rw[lJ j y hy];rfl);exact⟨y,v,hy,by simpa using h1,h2⟩
   have hlen:vs.length=xs.length:=by simp[vs]
   refine⟨vs,hlen,?_,fun i c v tf o6=>?_⟩
   ·rw[<-hlen];refine run_loadCells_list (P:=P) w ⟨b,o,none⟩ vs fun j v o6=>?_
    have hj:j<xs.length:=by
     have:=(az.1 o6).1;simpa[vs]using this
    obtain⟨y,u,hy,Vg,_⟩:=hv j hj;rw[Addr.add_mid,Vg];simp[vs,hj,Vg]at o6;rw[o6]
   ·have hj:i<xs.length:=(az.1 tf).1;obtain⟨y,u,hy,Vg,hr⟩:=hv i hj;rw[tf]at hy;cases hy
    simp[vs,hj,Vg]at o6;rw[<-o6];exact hr
theorem Et{h:aC}(s:dL E h w){a r:af}{va:Value}(hh:Eg a h=some r)(ha:ck E w a va):j9 P E w (Conv.bytesToString va) r:=by
 have TH: ∀q,a≠ .str q:=by rintro q rfl;simp[Eg]at hh
 have XO:(kh h a).bind (fun xs=>(bytesOf xs).map fun l=>af.str ⟨l.toArray⟩)=some r:=by
  cases a<;>first|exact hh|(exact absurd rfl (TH _))
 simp only[Option.bind_eq_some_iff,ai]at XO;obtain⟨xs,he,l,hl,rfl⟩:=XO;obtain⟨ad,cap,rfl,fI,b,o,sz,Ys,je,fJ⟩:=rp s ha he TH;have lJ:=Es xs l hl;refine j9.str ?_
 by_cases kY:xs=[]
 ·subst kY;simp[bytesOf]at hl;subst hl
  cases ad with
  |none=>simp[Conv.bytesToString];rfl
  |some ad=>simp[Conv.bytesToString,loadCells,loadCellsFrom];rfl
 ·have VS:sz=1:=by
   obtain⟨x0,xr,rfl⟩:=List.exists_cons_of_ne_nil kY;have:=je x0 (by simp);rw[lJ 0 x0 rfl]at this;simpa using this.symm
  subst VS;rw[Ys kY];obtain⟨vs,hlen,hld,hr⟩:=Lx (P:=P) lJ fJ;simp only[Conv.bytesToString,Sem.run_bind,hld,Result.andThen_ok];rw[<-Array.forIn_toList];rw[Lw (P:=P) (E:=E) (w:=w) (fun n r=>by rfl) xs vs l _ hl hlen.symm hr];simp only[Result.andThen_ok,Sem.run_pure]
  congr 2
  simp[ByteArray.empty,ByteArray.emptyWithCapacity]
  try rfl
theorem Eu{h:aC}(s:dL E h w){src dst:TypeId}{a r:af}{va:Value}(hh:NB P src dst a h=some r)(ha:ck E w a va):j9 P E w (convert src dst va) r:=by
 unfold NB at hh;split at hh
 ·rename_i k k' hs hd;split at hh
  ·rename_i q n;cases hh
   rw[ha.int];exact j9.int (by simp[convert,run_underlying hs,run_underlying hd,Conv.intToInt])
  ·cases hh
 ·rename_i hs hd;split at hh
  ·rename_i q;cases hh
   rw[ha.str];exact j9.str (by simp[convert,run_underlying hs,run_underlying hd])
  ·cases hh
 ·rename_i e hs hd;split at hh
  ·rename_i hu;obtain⟨v,hv,hr⟩:=Et (P:=P) s hh ha;refine⟨v,?_,hr⟩
   have hnp: ∃ad n cap,va= .slice ad n cap:=by
    have TH: ∀q,a≠ .str q:=by rintro q rfl;simp[Eg]at hh
    have XO: ∃xs,kh h a=some xs:=by
     cases a<;>first|(simp only[Eg,Option.bind_eq_some_iff]at hh;obtain⟨xs,hx,_⟩:=hh;exact⟨xs,hx⟩)|(exact absurd rfl (TH _))
    obtain⟨xs,he⟩:=XO;obtain⟨ad,cap,Nh,_⟩:=rp s ha he TH;exact⟨_,_,_,Nh⟩
   obtain⟨ad,n,cap,rfl⟩:=hnp;simp only[convert,Sem.run_bind,run_underlying hs,run_underlying hd,run_underlying hu,Result.andThen_ok];exact hv
  ·cases hh
 ·cases hh
end
end Go.Am

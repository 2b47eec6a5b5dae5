/- Maps that are written; every operation but a call, all in one. -/
import Derived.Test.YtfepbikckfehlaaGreatGH4
set_option linter.unusedVariables false
set_option linter.unusedSimpArgs false
set_option maxHeartbeats 4000000
namespace Go.Am
open Go
section
variable{P:Program}{E:Env}{w:World}{h:aC}
def sV(E:Env)(w:World)(sz:Nat)(es:List af)(cs:List Value):Prop:=
 cs.length=es.length*sz/\(∀x∈es,x.cells.length=sz)/\ ∀(i:Nat)(x:af),es[i]?=some x-> ∀(j:Nat)(c:af),x.cells[j]?=some c-> ∃v,cs[i*sz+j]?=some v/\ck E w c v
theorem sV.append{sz:Nat}{xs ys:List af}{cs ds:List Value}(hx:sV E w sz xs cs)(hy:sV E w sz ys ds):sV E w sz (xs++ys) (cs++ds):=by
 obtain⟨x1,x2,x3⟩:=hx;obtain⟨y1,y2,y3⟩:=hy;refine⟨by simp[x1,y1,Nat.add_mul],fun x hx=>?_,fun i x hx j c hj=>?_⟩
 ·rcases bu.1 hx with h|h
  ·exact x2 x h
  ·exact y2 x h
 ·by_cases hi:i<xs.length
  ·rw[bp hi]at hx;obtain⟨v,hv,hr⟩:=x3 i x hx j c hj;exact⟨v,by rw[bp (az.1 hv).1];exact hv,hr⟩
  ·rw[List.getElem?_append_right (by omega)]at hx;obtain⟨v,hv,hr⟩:=y3 _ x hx j c hj;refine⟨v,?_,hr⟩
   have cx:cs.length<=i*sz+j:=by
    rw[x1];have:=Nat.mul_le_mul_right sz (show xs.length<=i by omega);omega
   rw[List.getElem?_append_right cx,<-hv,x1]
   congr 1
   rw[Nat.sub_mul];have:=Nat.mul_le_mul_right sz (show xs.length<=i by omega);omega
theorem sV.mono{E':Env}{w':World}{sz:Nat}{xs:List af}{cs:List Value}(h:sV E w sz xs cs)(hr: ∀a v,ck E w a v->ck E' w' a v):sV E' w' sz xs cs:=
 ⟨h.1,h.2.1,fun i x hx j c hj=>by obtain⟨v,h1,h2⟩:=h.2.2 i x hx j c hj;exact⟨v,h1,hr _ _ h2⟩⟩
theorem LC{ys:List af}{b o sz:Nat}(hs: ∀y∈ys,y.cells.length=sz)(lJ: ∀y∈ys,y.cells.all af.bE=true)(hc: ∀(i:Nat)(y:af),ys[i]?=some y->iP E w b (o+i*sz) y):
  ∃news:List Value,sV E w sz ys news/\(∀j v,news[j]?=some v->w.cell? ⟨b,o+j,none⟩=some v)/\ ∀u∈news,u.oneCell'=true:=by
   let news:List Value:=(List.range (ys.length*sz)).map fun j=>(w.cell? ⟨b,o+j,none⟩).getD undef
   have hv: ∀k,k<ys.length*sz-> ∃y c v,ys[k/sz]?=some y/\y.cells[k % sz]?=some c/\w.cell? ⟨b,o+k,none⟩=some v/\ck E w c v:=by
    intro k hk;have je:0<sz:=Nat.pos_of_ne_zero fun e=>by subst e;simp at hk
    have hi:k/sz<ys.length:=Nat.div_lt_of_lt_mul (by rw[Nat.mul_comm];exact hk);obtain⟨y,hy⟩:=bD hi;have hj:k % sz<y.cells.length:=by rw[hs y (aV hy)];exact Nat.mod_lt _ je
    obtain⟨c,tf⟩:=bD hj;obtain⟨v,h1,h2⟩:=hc _ y hy _ c tf;refine⟨y,c,v,hy,tf,?_,h2⟩;rw[<-h1]
    congr 2
    rw[Nat.add_assoc,Nat.mul_comm,Nat.div_add_mod]
   have qQ: ∀k v,news[k]?=some v->k<ys.length*sz/\w.cell? ⟨b,o+k,none⟩=some v:=by
    intro k v hk
    have eH:k<ys.length*sz:=by
     have:=(az.1 hk).1;simpa[news]using this
    obtain⟨_,_,u,_,_,hu,_⟩:=hv k eH;simp[news,eH,hu]at hk;exact⟨eH,by rw[hu,hk]⟩
   refine⟨news,⟨by simp[news],hs,fun i x hx j c hj=>?_⟩,fun j v hj=>(qQ j v hj).2,fun u hu=>?_⟩
   ·have SD:j<sz:=by
     rw[<-hs x (aV hx)];exact(az.1 hj).1
    have eH:i*sz+j<ys.length*sz:=by
     have:=Nat.mul_le_mul_right sz (show i+1<=ys.length from(az.1 hx).1);rw[Nat.succ_mul]at this;omega
    obtain⟨v,h1,h2⟩:=hc i x hx j c hj;rw[Nat.add_assoc]at h1;exact⟨v,by simp[news,eH,h1],h2⟩
   ·obtain⟨k,hk⟩:=List.mem_iff_getElem?.1 hu;obtain⟨eH,rm⟩:=qQ k u hk;obtain⟨y,c,v,hy,tf,o6,hr⟩:=hv k eH;rw[rm]at o6;cases o6
    exact hr.bE (aG.1 (lJ y (aV hy)) c (aV tf))
theorem HY{sz:Nat}{ys:List af}(h:ys.all (hU sz)=true):(∀y∈ys,y.cells.length=sz)/\ ∀y∈ys,y.cells.all af.bE=true:=by
 refine⟨fun y hy=>?_,fun y hy=>?_⟩<;>have:=aG.1 h y hy<;>simp only[hU,aj,beq_iff_eq]at this
 ·exact this.1
 ·exact this.2
theorem LD(s:dL E h w){x:af}{vx:Value}{ys:List af}{sz:Nat}{tx:TypeId}(hx:ck E w x vx)(he:kh h x=some ys)(dt:ys.all (hU sz)=true)
  (hk:(∃e',P.underlying tx=some (.slice e'))∨P.underlying tx=some .string): ∃news,Src P sz tx vx ys.length news w/\sV E w sz ys news:=by
   obtain⟨hs,lJ⟩:=HY dt
   by_cases QU: ∃q,x= .str q
   ·obtain⟨q,rfl⟩:=QU;obtain rfl:=hx.str;simp only[kh]at he;cases he
    have hlen:(q.data.toList.map fun b=>af.int .u8 b.toNat).length=q.size:=by simp
    by_cases hq:q.size=0
    ·have HZ:(q.data.toList.map fun b=>af.int .u8 b.toNat)=[]:=List.eq_nil_of_length_eq_zero (by rw[hlen];exact hq);rw[HZ];refine⟨[],⟨hk,fun w'=>?_,?_,?_,by simp,fun u hu=>by cases hu⟩,by simp,fun x hx=>(by cases hx),fun i x hx=>(by simp at hx)⟩
     ·simp[Builtin.lenOf,hq]
     ·simp[Builtin.firstCells]
     ·simp[Builtin.firstCells]
    ·have h1:sz=1:=by
      cases hl:q.data.toList with
      |nil=>exact absurd (by rw[<-hlen,hl];rfl) hq
      |cons b bs=>
       have:=hs (.int .u8 b.toNat) (by rw[hl];simp);simpa[af.cells]using this.symm
     subst h1
     have yd: ∀w':World,Src P 1 tx (.string q) q.size (byteCells q) w:=fun _=>
      ⟨hk,fun _=>rfl,firstCells_string q w,firstCells_string q w.drew,by rw[byteCells_length,Nat.mul_one],fun u hu=>by
       obtain⟨_,_,rfl⟩:=bj.1 hu;rfl⟩
     refine⟨byteCells q,by rw[hlen];exact yd w,by rw[byteCells_length,hlen,Nat.mul_one],hs,fun i x hx j c hj=>?_⟩;rw[List.getElem?_map]at hx
     cases hb:q.data.toList[i]? with
     |none=>simp[hb]at hx
     |some b=>
      simp[hb]at hx;subst hx
      cases j with
      |zero=>
       simp[af.cells]at hj;subst hj;refine⟨.int .u8 b.toNat,?_,.eG (.int _ _)⟩;simp only[byteCells,Nat.mul_one,Nat.add_zero,List.getElem?_map,hb]
       rfl
      |succ j=>simp[af.cells]at hj
   ·obtain⟨a,cap,rfl,fI,b,o,iz,ha,Ko,fJ⟩:=rp s hx he (fun q hq=>QU ⟨q,hq⟩)
    have oa: ∀(a:Addr)(n c:Nat)(news:List Value),news.length=n*sz->(∀j u,news[j]?=some u->w.cell? (a.add j)=some u)->(∀u∈news,u.oneCell'=true)->Src P sz tx (.slice (some a) n c) n news w:=
     fun a n c news hl hn h1=>⟨hk,fun _=>rfl,run_firstCells_some w sz n a n c news hl hn,run_firstCells_some w.drew sz n a n c news hl (by simpa using hn),hl,h1⟩
    by_cases kY:ys=[]
    ·subst kY;refine⟨[],?_,by simp,fun x hx=>(by cases hx),fun i x hx=>(by simp at hx)⟩
     cases a with
     |none=>exact⟨hk,fun _=>rfl,run_firstCells_none w sz 0 0 cap,run_firstCells_none w.drew sz 0 0 cap,by simp,fun u hu=>by cases hu⟩
     |some a=>exact oa a 0 cap [] (by simp) (fun j u hj=>by simp at hj) (fun u hu=>by cases hu)
    ·obtain⟨y0,yr,rfl⟩:=List.exists_cons_of_ne_nil kY;have zc:iz=sz:=by have h1:=hs y0 (by simp);have h2:=Ko y0 (by simp);omega
     subst zc;obtain⟨news,f1,f2,f3⟩:=LC hs lJ fJ;rw[ha kY];exact⟨news,oa _ _ _ news f1.1 (fun j u hj=>by rw[Addr.add_mid];exact f2 j u hj) f3,f1⟩
def Env.move(E:Env)(id new:Nat)(s:Slot):Env:=⟨fun k=>if k=new then some s else if k=id then some .dead else E.m k,E.S⟩
theorem dL.move(s:dL E h w)(hf:Full E h){id b0 b:Nat}{Yy sl:Slot}{o:cJ}{w':World}(hm:E.m id=some Yy)(SE:Yy.BC=some b0)(cq:id<h.length)(HN:sl.BC=some b)(hb:b=b0∨b=w.heap.size)
  (kx: ∀i,i<w.heap.size->i≠b0->w'.heap[i]?=w.heap[i]?) (Kn:w.heap.size<=w'.heap.size) (A1:b<w'.heap.size) (TP:w'.os=w.os) (ht:w'.tape=w.tape) (ho:w'.output=w.output)
  (dt:(∀a v,ck E w a v->ck (E.move id h.length sl) w' a v)->dR (E.move id h.length sl) w' o sl):
  dL (E.move id h.length sl) (h.set id .dead++[o]) w'/\Full (E.move id h.length sl) (h.set id .dead++[o])/\Ext E h w (E.move id h.length sl) (h.set id .dead++[o]) w':=by
   have TS:(E.move id h.length sl).m h.length=some sl:=by simp[Env.move]
   have mid:(E.move id h.length sl).m id=some .dead:=by simp only[Env.move];rw[if_neg (show id≠h.length by omega)];simp
   have LF: ∀k,k≠h.length->k≠id->(E.move id h.length sl).m k=E.m k:=fun k h1 h2=>by simp only[Env.move];rw[if_neg h1,if_neg h2]
   have Yz:E.im b0:=⟨id,Yy,hm,SE⟩
   have Ia: ∀c,(E.move id h.length sl).im c->(c=b∨(E.im c/\c≠b0)):=by
    rintro c ⟨k,s',h1,h2⟩
    by_cases e1:k=h.length
    ·subst e1;rw[TS]at h1;cases h1;rw[HN]at h2;cases h2;exact .inl rfl
    ·by_cases e2:k=id
     ·subst e2;rw[mid]at h1;cases h1;cases h2
     ·rw[LF k e1 e2]at h1;exact .inr ⟨⟨k,s',h1,h2⟩,fun e=>by subst e;exact e2 (s.inj k id _ _ _ h1 hm h2 SE)⟩
   have hx:Ext E h w (E.move id h.length sl) (h.set id .dead++[o]) w':=by
    refine⟨⟨fun _ h=>h,fun _ h=>.inl h,fun c hc hn=>kx c hc fun e=>hn (by subst e;exact Yz),fun k s' hs=>?_,fun c hc=>?_,by simp,Kn,TP,ht,ho⟩,fun k h1 h2=>by rw[LF k (by omega) (fun e=>by subst e;rw[hm]at h2;cases h2)];exact h2⟩
    ·by_cases e1:k=h.length
     ·subst e1;rw[hf _ (aB _)]at hs;cases hs
     ·by_cases e2:k=id
      ·subst e2;exact .inr mid
      ·left;rw[LF k e1 e2];exact hs
    ·rcases Ia c hc with h1|h1
     ·subst h1;rcases hb with rfl|rfl
      ·exact .inl Yz
      ·exact .inr (aB _)
     ·exact .inl h1.1
   have hr: ∀a v,ck E w a v->ck (E.move id h.length sl) w' a v:=fun a v h=>h.ext hx s;refine⟨⟨?_,?_,?_,?_,?_⟩,?_,hx⟩
   ·intro k ob s' hk hs
    by_cases e1:k=h.length
    ·subst e1;rw[TS]at hs;cases hs
     rw[List.getElem?_append_right (by simp)]at hk;simp at hk;subst hk;exact dt hr
    ·have eH:k<h.length:=by
      have:=(az.1 hk).1;simp at this;omega
     rw[bp (by simpa using eH),List.getElem?_set]at hk
     by_cases e2:k=id
     ·subst e2;simp[cq]at hk;subst hk;rw[mid]at hs;cases hs
      trivial
     ·rw[if_neg (Ne.symm e2)]at hk;rw[LF k e1 e2]at hs;refine(s.obj k ob s' hk hs).mono hr fun c hc=>kx c (s.lt c ⟨k,s',hs,hc⟩) fun e=>?_;subst e;exact e2 (s.inj k id _ _ _ hs hm hc SE)
   ·have key: ∀i si c,(E.move id h.length sl).m i=some si->si.BC=some c->(i=h.length/\c=b)∨(i≠h.length/\i≠id/\E.m i=some si/\c≠b0):=by
     intro i si c hi rj
     by_cases e1:i=h.length
     ·subst e1;rw[TS]at hi;cases hi;rw[HN]at rj;cases rj;exact .inl ⟨rfl,rfl⟩
     ·by_cases e2:i=id
      ·subst e2;rw[mid]at hi;cases hi;cases rj
      ·rw[LF i e1 e2]at hi;exact .inr ⟨e1,e2,hi,fun e=>by subst e;exact e2 (s.inj i id _ _ _ hi hm rj SE)⟩
    have VX: ∀i si c,E.m i=some si->si.BC=some c->c≠b0->c≠b:=by
     intro i si c hi rj hn e;subst e;rcases hb with h1|h1
     ·exact hn h1
     ·have:=s.lt c ⟨i,si,hi,rj⟩;omega
    intro i j si sj c hi hj rj vD;rcases key i si c hi rj with⟨h1,h2⟩|⟨h1,h2,h3,h4⟩<;>rcases key j sj c hj vD with⟨g1,g2⟩|⟨g1,g2,g3,g4⟩
    ·omega
    ·exact absurd h2 (VX j sj c g3 vD g4)
    ·exact absurd g2 (VX i si c h3 rj h4)
    ·exact s.inj i j si sj c h3 g3 rj vD
   ·intro c hc hS;rcases Ia c hc with h1|h1
    ·subst h1;rcases hb with rfl|rfl
     ·exact s.nS c Yz hS
     ·exact absurd (s.nQ _ hS) (Nat.lt_irrefl _)
    ·exact s.nS c h1.1 hS
   ·intro c hc;rcases Ia c hc with h1|h1
    ·subst h1;exact A1
    ·have:=s.lt c h1.1;omega
   ·intro c hc;have:=s.nQ c hc;omega
   ·intro k hk;simp at hk;rw[LF k (by omega) (by omega)];exact hf k (by omega)
theorem dL.of_heap{w':World}(s:dL E h w)(e:w'.heap=w.heap):dL E h w':=
 ⟨fun id o sl ho hm=>(s.obj id o sl ho hm).mono (fun a v hr=>hr.mono (fun _ h=>h) (fun b _=>by rw[e]) (fun _ _ h=>.inl h)) fun b _=>by rw[e],s.inj,s.nS,fun b hb=>by rw[e];exact s.lt b hb,fun b hb=>by rw[e];exact s.nQ b hb⟩
theorem ck.of_heap{w':World}(e:w'.heap=w.heap){a:af}{v:Value}(h:ck E w a v):ck E w' a v:=h.mono (fun _ h=>h) (fun b _=>by rw[e]) (fun _ _ h=>.inl h)
theorem xe{z:Array Value}{sz ye cap:Nat}(hz:z.size=sz)(hle:ye<=cap)(cs:List Value)(hl:cs.length=ye*sz):(cs.toArray++Builtin.zeroCells z (cap-ye)).size=cap*sz:=by
 simp only[Array.size_append,List.size_toArray,hl,Builtin.zeroCells,Array.size_map,Array.size_range,hz,<-Nat.add_mul]
 congr 1
 omega
theorem dL.cut(s:dL E h w){id sz:Nat}{es:List af}(n:Nat)(ho:h[id]?=some (.arr sz es)):dL E (h.set id (.arr sz (es.take n))) w where
 obj:=fun j o sl hj hm=>by
  by_cases e:id=j
  ·subst e;rw[List.getElem?_set_self (az.1 ho).1]at hj;cases hj
   have:=s.obj id _ sl ho hm;cases sl<;>simp only[dR]at this⊢
   obtain⟨rfl,h1,h2,h3,h4⟩:=this
   exact⟨rfl,h1,bw (Nat.mul_le_mul_right _ (by simp;omega)) h2,fun x hx=>h3 x (List.mem_of_mem_take hx),fun i x hx=>h4 i x (by
    rw[List.getElem?_take]at hx;split at hx
    ·exact hx
    ·cases hx)⟩
  ·rw[List.getElem?_set_ne e]at hj;exact s.obj j o sl hj hm
 inj:=s.inj
 nS:=s.nS
 lt:=s.lt
 nQ:=s.nQ
theorem CL(s:dL E h w)(hf:Full E h){t tx ty:TypeId}{a x r:af}{va vx:Value}{h':aC}(hh:hY P t a x h=some (r,h'))(ha:ck E w a va)(hx:ck E w x vx)
  (hk:(∃e',P.underlying tx=some (.slice e'))∨P.underlying tx=some .string):
  ∃u w' E',(Builtin.append_ #[t,tx] ty #[va,vx]).run P w= .ok u w'/\dL E' h' w'/\Full E' h'/\Ext E h w E' h' w'/\ck E' w' r u:=by
   unfold hY at hh;split at hh
   ·rename_i e sz ys yZ YA;obtain⟨i,hu,hi,A8,Yu,je,z,hz,sU⟩:=jW yZ;split at hh
    ·rename_i aD;obtain⟨news,YB,ui⟩:=LD (tx:=tx) s hx YA aD hk;have EG:Src P i.size tx vx ys.length news w:=by rw[A8];exact YB
     have VY: ∀{old ye:Nat},old<ye->ye<=br->Builtin.nextslicecap ye old*i.bytes<=281474976710656:=by
      intro old ye h1 h2;refine growslice_fits h1 ?_;have:=Nat.mul_le_mul h2 Yu;unfold br at this;omega
     have HX: ∀{ye:Nat},ye<=br->((ye:Nat):Int)<=9223372036854775807:=by
      intro ye h1;unfold br at h1;omega
     split at hh
     ·-- onto nil
      cases ha with
      |eG ha=>
       cases ha with
       |nil ad=>
        split at hh
        ·rename_i he;cases hh
         subst he;have HZ:news=[]:=List.eq_nil_of_length_eq_zero (by rw[ui.1];simp);subst HZ;exact⟨_,w,E,run_append_nothing w t tx ty e i hu hi ad 0 0 (aB _) vx EG,s,hf,Ext.refl _ _ _,.eG (.nil ad)⟩
        ·rename_i he;split at hh
         ·rename_i hle;cases hh
          have ug:0<0+ys.length:=by
           have:=List.length_pos_iff.2 he;omega
          have hold:(Builtin.firstCells i.size 0 (.slice ad 0 0)).run P w.drew= .ok ([]:List Value).toArray w.drew:=by
           cases ad with
           |none=>simp[Builtin.firstCells]
           |some ad=>exact run_firstCells_some w.drew i.size 0 ad 0 0 [] (by simp) (fun j u hj=>by simp at hj)
          have fl:=run_append_grow_src (ty:=ty) w t tx e i z hu hi hz ad 0 0 [] hold vx ys.length news EG ug (HX (by omega)) (VY ug (by omega));simp only[bg,List.nil_append]at fl;have cx:=grownCap_ge w ys.length 0 e;have rq:=xe (z:=z.cells) sU cx news ui.1;have s':dL E h w.drew:=s.of_heap rfl;have s'':dL E (h++[.arr sz ys]) w.drew:=s'.more ⟨_,rfl⟩ hf
          obtain⟨p1,p2⟩:=s''.place (id:=h.length) (o:=.arr sz ys) (.cells (news.toArray++Builtin.zeroCells z.cells (grownCap w ys.length 0 e-ys.length)) e) (.live w.heap.size (grownCap w ys.length 0 e*sz) sz)
           (by simp) (hf _ (aB _)) rfl
           ⟨rfl,by rw[<-rq];exact yq w.drew _ e,Nat.mul_le_mul_right _ cx,ui.2.1,fun k y hy j c hj=>by
            obtain⟨v,g1,g2⟩:=ui.2.2 k y hy j c hj;refine⟨v,?_,(ck.of_heap (w:=w) (w':=w.drew) rfl g2).put s' _ (hf _ (aB _)) _⟩;have:=uf w.drew (news.toArray++Builtin.zeroCells z.cells (grownCap w ys.length 0 e-ys.length)) e (k*sz+j);refine Eq.trans this ?_;rw[Array.getElem?_append_left (by simpa using(az.1 g1).1)];simpa using g1⟩
          refine⟨_,_,_,fl,p1,fun k hk=>?_,?_,?_⟩
          ·simp[nP]at hk;rw[Env.dj E _ (by omega)];exact hf k (by omega)
          ·exact⟨⟨p2.S,p2.SN,p2.mem,p2.m,p2.new,by simp[nP],p2.size,p2.os,p2.tape,p2.output⟩,fun k g1 g2=>by rw[Env.dj _ _ (by omega)];exact g2⟩
          ·refine .own _ 0 _ _ _ _ _ sz (Env.fi E _ _) cx (.inr ⟨by simp,?_⟩);rw[bg];exact aB _
         ·cases hh
     ·rename_i id st len
      cases ho:h[id]? with
      |none=>simp[ho]at hh
      |some o=>
       have SH:id<h.length:=(az.1 ho).1;cases o<;>simp only[ho]at hh<;>try(cases hh;done)
       rename_i iz es;split at hh
       ·rename_i hc;obtain⟨rfl,hse,hlen⟩:=hc;subst hse
        cases ha with
        |eG hc=>cases hc
        |ri _ _ _ ad cap hm fI=>
         have:=s.obj id _ _ ho hm
         simp[dR]at this
        |own _ _ _ ad cap b iC Vm hm fI hp=>
         have TT:=s.obj id _ _ ho hm;simp only[dR]at TT;obtain⟨rfl,dT,hle,hs,fJ⟩:=TT;split at hh
         ·rename_i he;cases hh
          subst he;have HZ:news=[]:=List.eq_nil_of_length_eq_zero (by rw[ui.1];simp);subst HZ;exact⟨_,w,E,run_append_nothing w t tx ty e i hu hi ad len cap fI vx EG,s.cut len ho,fun k hk=>hf k (by simpa using hk),⟨⟨fun _ h=>h,fun _ h=>.inl h,fun _ _ _=>rfl,fun _ _ h=>.inl h,fun _ h=>.inl h,by simp,aB _,rfl,rfl,rfl⟩,fun _ _ h=>h⟩,.own id 0 len ad cap b iC iz hm fI hp⟩
         ·rename_i he;split at hh
          ·rename_i SI;cases hh
           have ug:0<ys.length:=List.length_pos_iff.2 he;have cY: ∀x∈es.take len,x.cells.length=iz:=fun x hx=>hs x (List.mem_of_mem_take hx);have eH:(es.take len).length=len:=by simp;omega
           by_cases Kp:len+ys.length<=cap
           ·-- there is room
            rcases hp with⟨h1,h2⟩|⟨rfl,hp⟩
            ·omega
            ·rw[bg]at hp;rw[Nat.zero_mul]at*;have Kq:news.length=ys.length*iz:=ui.1
             have SJ: ∀j,j<news.length->len*iz+j<iC:=by
              intro j hj;have h3:=Nat.mul_le_mul_right iz Kp;rw[Nat.add_mul]at h3;omega
             have fl:=run_append_room_src (ty:=ty) w t tx e i hu hi b 0 len cap vx ys.length news EG Kp (fun j hj=>by rw[A8,bg];exact dT.isSome (SJ j hj)) (fun j hj=>dT.frozen _);rw[A8,bg]at fl;obtain⟨f1,f2,f3,f4,f5⟩:=mX b news (len*iz) w
             obtain⟨p1,p2,p3⟩:=s.move hf (w':=w.setCells b (len*iz) news) (sl:=.live b iC iz) (o:=.arr iz (es.take len++ys)) hm rfl SH rfl (.inl rfl) (fun i _ hi=>f5 i hi) (by omega) (by rw[f1];exact dT.lt) f2 f3 f4 fun hr=>by
              refine⟨rfl,dT.setCells b _ _ _,?_,fun x hx=>?_,fun k y hy j c hj=>?_⟩
              ·rw[List.length_append,eH];exact bw (Nat.mul_le_mul_right _ Kp) hp
              ·rcases bu.1 hx with hx|hx
               ·exact cY x hx
               ·exact ui.2.1 x hx
              ·by_cases hk:k<len
               ·rw[bp (by omega),List.getElem?_take,if_pos hk]at hy;obtain⟨v,g1,g2⟩:=fJ k y hy j c hj;have SD:j<iz:=by rw[<-hs y (aV hy)];exact(az.1 hj).1
                refine⟨v,?_,hr _ _ g2⟩;rw[World.cell?_setCells_out b _ _ _ _ (fun _ _=>.inl ?_),g1];show k*iz+j<len*iz;have:=Nat.mul_le_mul_right iz (show k+1<=len from hk);rw[Nat.succ_mul]at this;omega
               ·rw[List.getElem?_append_right (by omega),eH]at hy;obtain⟨v,g1,g2⟩:=ui.2.2 _ y hy j c hj;refine⟨v,?_,hr _ _ g2⟩;have VZ:=(az.1 g1).1;have:=World.cell?_setCells_in b news (len*iz) w (fun j hj=>dT.isSome (SJ j hj)) _ VZ
                have e1:len*iz+((k-len)*iz+j)=k*iz+j:=by
                 rw[Nat.sub_mul];have:=Nat.mul_le_mul_right iz (show len<=k by omega);omega
                rw[e1]at this;rw[this,<-g1];simp[au VZ]
             refine⟨_,_,E.move id h.length (.live b iC iz),fl,p1,p2,p3,?_⟩
             ·have CI:(es.take len++ys).length=len+ys.length:=by rw[List.length_append,eH]
              have:ck (E.move id h.length (.live b iC iz)) (w.setCells b (len*iz) news) (.own h.length 0 (len+ys.length)) (.slice (some ⟨b,0,none⟩) (len+ys.length) cap):=
               .own _ 0 _ _ _ b iC iz (by simp[Env.move]) Kp (.inr ⟨by simp,by simpa using hp⟩)
              simpa[nP,CI]using this
           ·-- there is none
            have lJ: ∀y∈es.take len,y.cells.all af.bE=true->True:=fun _ _ _=>trivial
            have hold: ∃olds:List Value,(Builtin.firstCells i.size len (.slice ad len cap)).run P w.drew= .ok olds.toArray w.drew/\sV E w iz (es.take len) olds:=by
             rcases hp with⟨h1,h2⟩|⟨rfl,hp⟩
             ·subst h1;refine⟨[],?_,by simp,fun x hx=>(by simp at hx),fun i x hx=>(by simp at hx)⟩
              cases ad with
              |none=>simp[Builtin.firstCells]
              |some ad=>exact run_firstCells_some w.drew i.size 0 ad 0 cap [] (by simp) (fun j u hj=>by simp at hj)
             ·let olds:List Value:=(List.range (len*iz)).map fun j=>(w.cell? ⟨b,j,none⟩).getD undef
              have BM: ∀k,k<len*iz-> ∃v,w.cell? ⟨b,k,none⟩=some v:=by
               intro k hk;refine Option.isSome_iff_exists.1 (dT.isSome ?_);have:=Nat.mul_le_mul_right iz hlen;omega
              have qQ: ∀k v,olds[k]?=some v->w.cell? ⟨b,k,none⟩=some v:=by
               intro k v hk
               have eH:k<len*iz:=by
                have:=(az.1 hk).1;simpa[olds]using this
               obtain⟨u,hu⟩:=BM k eH;simp[olds,eH,hu]at hk;rw[hu,hk]
              refine⟨olds,run_firstCells_some w.drew i.size len _ len cap olds (by simp[olds,A8]) (fun j u hj=>?_),by simp[olds,eH],cY,fun k y hy j c hj=>?_⟩
              ·rw[Addr.add_mid];simpa using qQ j u hj
              ·have hk:k<len:=by have:=(az.1 hy).1;omega
               rw[List.getElem?_take,if_pos hk]at hy;obtain⟨v,g1,g2⟩:=fJ k y hy j c hj;have SD:j<iz:=by rw[<-hs y (aV hy)];exact(az.1 hj).1
               have YC:k*iz+j<len*iz:=by
                have:=Nat.mul_le_mul_right iz (show k+1<=len from hk);rw[Nat.succ_mul]at this;omega
               exact⟨v,by simp[olds,YC,g1],g2⟩
            obtain⟨olds,HP,EE⟩:=hold;have SK:cap<len+ys.length:=by omega
            have fl:=run_append_grow_src (ty:=ty) w t tx e i z hu hi hz ad len cap olds HP vx ys.length news EG SK (HX SI) (VY SK SI);have cx:=grownCap_ge w (len+ys.length) cap e;have YD:=EE.append ui;have CI:(es.take len++ys).length=len+ys.length:=by rw[List.length_append,eH]
            have iO:(olds++news).length=(len+ys.length)*iz:=by rw[YD.1,CI]
            have rq:=xe (z:=z.cells) sU cx (olds++news) iO;generalize hW:w.drew.alloc (.cells ((olds++news).toArray++Builtin.zeroCells z.cells (grownCap w (len+ys.length) cap e-(len+ys.length))) e)=W at fl;have hWo: ∀j,j<w.heap.size->W.heap[j]?=w.heap[j]?:=fun j hj=>by rw[<-hW];exact d7 w.drew _ hj
            have hWs:W.heap.size=w.heap.size+1:=by rw[<-hW];exact Array.size_push _
            obtain⟨p1,p2,p3⟩:=s.move hf (w':=W) (sl:=.live w.heap.size (grownCap w (len+ys.length) cap e*iz) iz) (o:=.arr iz (es.take len++ys)) hm rfl SH rfl (.inr rfl) (fun i hi _=>hWo i hi) (by omega) (by omega)
             (by rw[<-hW];rfl) (by rw[<-hW];rfl) (by rw[<-hW];rfl) fun hr=>by
              refine⟨rfl,?_,by rw[CI];exact Nat.mul_le_mul_right _ cx,YD.2.1,fun k y hy j c hj=>?_⟩
              ·rw[<-rq,<-hW];exact yq w.drew _ e
              ·obtain⟨v,g1,g2⟩:=YD.2.2 k y hy j c hj;refine⟨v,?_,hr _ _ g2⟩;have:=uf w.drew ((olds++news).toArray++Builtin.zeroCells z.cells (grownCap w (len+ys.length) cap e-(len+ys.length))) e (k*iz+j);rw[hW]at this;refine Eq.trans this ?_;rw[Array.getElem?_append_left (by simpa using(az.1 g1).1)];simpa using g1
            refine⟨_,_,E.move id h.length (.live w.heap.size (grownCap w (len+ys.length) cap e*iz) iz),fl,p1,p2,p3,?_⟩
            ·have:ck (E.move id h.length (.live w.heap.size (grownCap w (len+ys.length) cap e*iz) iz)) W (.own h.length 0 (len+ys.length)) (.slice (some ⟨w.heap.size,0,none⟩) (len+ys.length) (grownCap w (len+ys.length) cap e)):=
              .own _ 0 _ _ _ w.heap.size (grownCap w (len+ys.length) cap e*iz) iz (by simp[Env.move]) cx (.inr ⟨by simp,by rw[bg];exact aB _⟩)
             simpa[nP,CI]using this
          ·cases hh
       ·cases hh
     ·cases hh
    ·cases hh
   ·cases hh
end
end Go.Am
set_option maxHeartbeats 4000000
namespace Go.Am
open Go MapKept
section
variable{P:Program}{E:Env}{w:World}{h:aC}
theorem CM(x y:ByteArray)(h:(x==y)=true):y=x:=by
 cases x;cases y
 rename_i a b;have:(a==b)=true:=h;rw[eq_of_beq this]
theorem Ib{d:TypeDesc}{a b:Value}(hk:IsKey d a)(h:Instr.sameNow d a b=some true):b=a:=by
 cases d<;>cases a<;>(try exact hk.elim)<;>cases b<;>(try(simp[Instr.sameNow]at h;done))
 ·rename_i x y;simp[Instr.sameNow]at h;rw[h]
 ·rename_i k k1 x k2 y;simp only[Instr.sameNow]at h;split at h
  ·rename_i e;subst e;simp at h;rw[h]
  ·cases h
 ·rename_i x y;simp only[Instr.sameNow,Option.some.injEq]at h;rw[(CM x y h)]
theorem BN(s:dL E h w)(hf:Full E h){t:TypeId}{m k v:af}{vm vk vv:Value}{h':aC}(hh:CD P t m k v h=some h')(hm:ck E w m vm)(hk:ck E w k vk)(hv:ck E w v vv):
  ∃w',(Instr.mapUpdate t vm vk vv).run P w= .ok () w'/\dL E h' w'/\Full E h'/\Ext E h w E h' w':=by
   unfold CD at hh;split at hh
   ·rename_i kt et id QW;have hu:=BI QW;obtain⟨b,rfl,A6⟩:=hm.map'
    cases ho:h[id]? with
    |none=>simp[ho]at hh
    |some o=>
     have eH:id<h.length:=(az.1 ho).1;cases o<;>simp only[ho]at hh<;>try(cases hh;done)
     rename_i ks vs;rcases A6 with A6|A6
     case inr=>
      have:=s.obj id _ _ ho A6;simp[dR]at this
     split at hh
     ·rename_i Lz;obtain⟨d,hd⟩:=y5 Lz;have hK:=xb hd Lz hk;have TT:=s.obj id _ _ ho A6;simp only[dR]at TT;obtain⟨es,clock,hb,HD,CI,Nj,i4⟩:=TT;have A1:b<w.heap.size:=(Array.getElem?_eq_some_iff.1 hb).1
      have fin: ∀(HE:Array MapEntry)(CN:Nat)(pc eo:List af),(Instr.mapUpdate t (.map (some b)) vk vv).run P w= .ok () {w with heap:=w.heap.setIfInBounds b (.map HE CN)}->
        pc.length=HE.size->eo.length=HE.size->
        (∀(i:Nat)(k:af)(e:MapEntry),pc[i]?=some k->HE[i]?=some e->ck E w k e.key)->(∀(i:Nat)(v:af)(e:MapEntry),eo[i]?=some v->HE[i]?=some e->ck E w v e.val)->
        ∃w',(Instr.mapUpdate t (.map (some b)) vk vv).run P w= .ok () w'/\dL E (h.set id (.oX pc eo)) w'/\Full E (h.set id (.oX pc eo))/\Ext E h w E (h.set id (.oX pc eo)) w':=by
         intro HE CN pc eo fl h1 h2 h3 h4
         have hw:=s.write (w':={w with heap:=w.heap.setIfInBounds b (.map HE CN)}) (o':=.oX pc eo) A6 rfl eH (by simp) (fun i hi=>by simp[Ne.symm hi]) rfl rfl rfl fun hr=>
          ⟨HE,CN,by simp[A1],h1,h2,fun i k e hk he=>hr _ _ (h3 i k e hk he),fun i v e hv he=>hr _ _ (h4 i v e hv he)⟩
         exact⟨_,fl,hw.1,fun k hk=>hf k (by simpa using hk),hw.2.1⟩
      cases Ic:nZ P kt k ks 0 with
      |none=>simp[Ic]at hh
      |some q=>
       obtain⟨g1,g2⟩:=y4 hd hk ks es.toList 0 q Ic (by simpa using HD) (fun i k e hk he=>Nj i k e hk (by simpa using he))
       cases q with
       |none=>
        simp only[Ic]at hh;cases hh
        refine fin (es.push {key:=vk,val:=vv,born:=clock}) (clock+1) _ _ ?_ (by simp[HD]) (by simp[CI]) (fun i k' e y6 he=>?_) (fun i v' e o6 he=>?_)
        ·simp[Instr.mapUpdate,run_underlying hu,MapKept.run_getObj_map hb,MapKept.run_checkKey hd hK,MapKept.run_findKey hd (g1 rfl),MapKept.run_setObj_map _ hb]
        ·rw[Array.getElem?_push]at he
         by_cases e1:i=es.size
         ·subst e1;simp at he;rw[List.getElem?_append_right (by omega)]at y6;simp[HD]at y6;subst y6 he;exact hk
         ·rw[if_neg e1]at he;have:=(Array.getElem?_eq_some_iff.1 he).1;rw[bp (by omega)]at y6;exact Nj i k' e y6 he
        ·rw[Array.getElem?_push]at he
         by_cases e1:i=es.size
         ·subst e1;simp at he;rw[List.getElem?_append_right (by omega)]at o6;simp[CI]at o6;subst o6 he;exact hv
         ·rw[if_neg e1]at he;have:=(Array.getElem?_eq_some_iff.1 he).1;rw[bp (by omega)]at o6
          exact i4 i v' e o6 he
       |some i=>
        simp only[Ic]at hh;cases hh
        obtain⟨_,e0,V0,HC,uj⟩:=g2 i rfl;simp at V0;have V1:=Ib hK uj;have V3:((es[i]?).map (·.key)).getD vk=vk:=by rw[V0];simp[V1]
        refine fin (es.modify i fun e=>{e with key:=vk,val:=vv}) clock _ _ ?_ (by simp[HD]) (by simp[CI]) (fun j k' e y6 he=>?_) (fun j v' e o6 he=>?_)
        ·simp[Instr.mapUpdate,run_underlying hu,MapKept.run_getObj_map hb,MapKept.run_checkKey hd hK,MapKept.run_findKey hd HC,V3,MapKept.run_keyThatStays hK,MapKept.run_setObj_map _ hb]
        ·rw[Array.getElem?_modify]at he
         by_cases e1:i=j
         ·subst e1;simp[V0]at he;subst he;simpa[V1]using Nj i k' e0 y6 V0
         ·rw[if_neg e1]at he;exact Nj j k' e y6 he
        ·rw[Array.getElem?_modify]at he
         by_cases e1:i=j
         ·subst e1;simp[V0]at he;subst he;rw[List.getElem?_set]at o6;split at o6
          ·split at o6
           ·cases o6;exact hv
           ·cases o6
          ·rename_i hn;exact absurd rfl hn
         ·rw[if_neg e1]at he;rw[List.getElem?_set,if_neg e1]at o6;exact i4 j v' e o6 he
     ·cases hh
   ·cases hh
end
section
variable{cf:dS}{E:Env}{w:World}{tm:Nat->af}{ρ:Operand->Value}
theorem xf{h h':aC}{o:Op}{v:af}(hm:mW o=true)(hv:aT cf tm h o=some (.val v h')):h <+: h':=by
 by_cases CJ:kq o=true
 ·obtain⟨v',he⟩:=mU CJ hv;cases he
  exact List.prefix_refl _
 cases o<;>(try(exact absurd hm CJ))<;>(try(simp only[mW]at hm;cases hm;done))
 all_goals simp only[aT]at hv
 case alloc t=>
  simp only[ai]at hv;obtain⟨z,hz,he⟩:=hv;cases he
  exact⟨_,rfl⟩
 case box t x=>
  simp only[ai]at hv;obtain⟨z,hz,he⟩:=hv;cases he
  exact⟨_,rfl⟩
 case build t ps=>
  split at hv
  ·split at hv
   ·split at hv
    ·cases hv;exact List.prefix_refl _
    ·cases hv
   ·cases hv
  ·cases hv
 case buildSlice t n ps=>
  split at hv
  ·split at hv
   ·split at hv
    ·split at hv
     ·split at hv
      ·cases hv
       cases n with
       |zero=>exact List.prefix_refl _
       |succ n=>exact⟨_,rfl⟩
      ·cases hv
     ·cases hv
    ·cases hv
   ·cases hv
  ·cases hv
 case makeMap t r=>
  cases r with
  |some r=>simp[mW,kq]at hm
  |none=>simp only at hv;cases hv;exact⟨_,rfl⟩
 case makeSlice t l c=>
  split at hv
  ·simp only[ai]at hv;obtain⟨q,hq,he⟩:=hv;cases he
   unfold Ei at hq;split at hq
   ·split at hq
    ·split at hq
     ·split at hq
      ·cases hq;exact⟨_,rfl⟩
      ·cases hq
     ·cases hq
    ·cases hq
   ·cases hq
  ·cases hv
theorem D8.full{h H:aC}{x:Sem Next}{v:af}(hp:h <+: H)(hf:Full E h)(hx:D8 cf.P E H w x v h.length H.length):Yw cf.P E h w x v H:=by
 obtain⟨u,w',E',h1,h2,h3,h4,h5⟩:=hx;refine⟨u,w',E',.inl h1,h2,fun k hk=>?_,?_,h4⟩
 ·rcases h5 k with h|h
  ·rw[h];exact hf k (bw hp.length_le hk)
  ·omega
 ·exact⟨⟨h3.S,h3.SN,h3.mem,h3.m,h3.new,bw hp.length_le h3.len,h3.size,h3.os,h3.tape,h3.output⟩,fun k g1 g2=>(h5 k).elim (fun h=>h.trans g2) fun h=>by omega⟩
theorem ze{h h':aC}(s:dL E h w)(hf:Full E h){o:Oper}{v:af}(hr:gn cf.G E w tm ρ o.op.operands)(hv:aT cf tm h o.op=some (.val v h')):Yw cf.P E h w (execOp ρ o) v h':=by
 by_cases hm:mW o.op=true
 ·have hp:=xf hm hv;exact D8.full hp hf (pY (s.more hp hf) hm hr hv (List.prefix_refl _) (fun k h1 _=>hf k h1)).2
 obtain⟨dst,op,ty,pos,after,guard⟩:=o;simp only at hr hv hm;cases op<;>(try(exact absurd rfl hm))<;>(try(simp[aT]at hv;done))
 case store t a x=>
  simp only[aT]at hv;simp only[Op.operands]at hr;split at hv
  ·rename_i av xv ha hx;simp only[ai]at hv;obtain⟨q,hq,he⟩:=hv;cases he
   obtain⟨w',h1,h2,h3,h4⟩:=EF s hf hq (hr a (by simp) _ ha) (hr x (by simp) _ hx);exact⟨undef,w',E,.inr ⟨by simp[execOp,h1],rfl⟩,h2,h3,h4,.eG (.dX [] #[] rfl fun i c v hc=>by simp at hc)⟩
  ·cases hv
 case makeMap t r=>
  cases r with
  |none=>exact absurd rfl hm
  |some r=>simp[aT]at hv
 case mapUpdate t m k x=>
  simp only[aT]at hv;simp only[Op.operands]at hr;split at hv
  ·rename_i mv kv xv gU hk hx;simp only[ai]at hv;obtain⟨q,hq,he⟩:=hv;cases he
   obtain⟨w',h1,h2,h3,h4⟩:=BN s hf hq (hr m (by simp) _ gU) (hr k (by simp) _ hk) (hr x (by simp) _ hx);exact⟨undef,w',E,.inr ⟨by simp[execOp,h1],rfl⟩,h2,h3,h4,.eG (.dX [] #[] rfl fun i c v hc=>by simp at hc)⟩
  ·cases hv
 case insert t m k x=>
  simp only[aT]at hv;simp only[Op.operands]at hr;split at hv
  ·rename_i mv kv xv gU hk hx;simp only[ai]at hv;obtain⟨q,hq,he⟩:=hv;cases he
   obtain⟨w',h1,h2,h3,h4⟩:=BN s hf hq (hr m (by simp) _ gU) (hr k (by simp) _ hk) (hr x (by simp) _ hx);exact⟨undef,w',E,.inr ⟨by simp[execOp,h1],rfl⟩,h2,h3,h4,.eG (.dX [] #[] rfl fun i c v hc=>by simp at hc)⟩
  ·cases hv
 case call c=>
  obtain⟨callee,args,sG⟩:=c
  cases callee with
  |value f=>
   exfalso;simp only[aT,cI]at hv;split at hv
   ·cases hv
   ·split at hv
    ·split at hv<;>simp at hv
    ·cases hv
  |invoke r m=>
   exfalso;simp only[aT,cI]at hv;split at hv
   ·cases hv
   ·split at hv
    ·split at hv
     ·split at hv<;>simp at hv
     ·cases hv
    ·cases hv
  |builtin b=>
   have TU: ∃as,cp (ev cf.G tm) args.toList=some as:=by
    simp only[aT,cI]at hv
    cases ha:cp (ev cf.G tm) args.toList with
    |none=>simp[ha]at hv
    |some as=>exact⟨as,rfl⟩
   obtain⟨as,ha⟩:=TU;obtain⟨hl,QB⟩:=gn.list hr (ys:=args) (fun y hy=>by simp[Op.operands,Call.operands,hy]) ha;cases b<;>(try(exact absurd rfl hm))<;>(try(simp[aT,cI,ha]at hv;done))
   case append=>
    have h2: ∃a x,as=[a,x]:=by
     simp only[aT,cI,ha]at hv
     match as,hv with
     | [a,x],_=>exact⟨a,x,rfl⟩
     | [],hv=>cases hv
     | [_],hv=>cases hv
     |_::_::_::_,hv=>cases hv
    obtain⟨a,x,rfl⟩:=h2
    have h1: ∃va vx,args.map ρ= #[va,vx]:=by
     generalize args.map ρ=vs at hl
     match vs,hl with
     |⟨[]⟩,hl=>simp at hl
     |⟨[_]⟩,hl=>simp at hl
     |⟨[u,u']⟩,_=>exact⟨u,u',rfl⟩
     |⟨_::_::_::_⟩,hl=>simp at hl
    obtain⟨va,vx,hvx⟩:=h1;rw[hvx]at QB;have ra:ck E w a va:=QB 0 a va rfl rfl;have rx:ck E w x vx:=QB 1 x vx rfl rfl;simp only[aT,cI,ha]at hv;split at hv
    ·rename_i t d ht hd;simp only[Option.bind_eq_some_iff]at hd;obtain⟨tx,htx,hd⟩:=hd
     have fin: ∀q,hY cf.P t a x h=some q->(.val q.1 q.2:HI)= .val v h'->((∃e',cf.P.underlying tx=some (.slice e'))∨cf.P.underlying tx=some .string)->
       Yw cf.P E h w (execOp ρ ⟨dst,.call ⟨.builtin .append,args,sG⟩,ty,pos,after,guard⟩) v h':=by
        intro q hq he hk;cases he
        obtain⟨u,w',E',g1,g2,g3,g4,g5⟩:=CL (ty:=ty) s hf hq ra rx hk;refine⟨u,w',E',.inl ?_,g2,g3,g4,g5⟩;have e:Builtin.append_ sG ty #[va,vx]=Builtin.append_ #[t,tx] ty #[va,vx]:=by simp[Builtin.append_,ht,htx]
        simp only[execOp,resolve,hvx,invoke,builtin,Sem.run_bind,Sem.run_pure,Result.andThen_ok,e,g1]
     split at hv
     ·rename_i e';simp only[ai]at hv;obtain⟨q,hq,he⟩:=hv;exact fin q hq he (.inl ⟨e',hd⟩)
     ·simp only[ai]at hv;obtain⟨q,hq,he⟩:=hv;exact fin q hq he (.inr hd)
     ·cases hv
    ·cases hv
 case panic x=>
  simp only[aT]at hv;split at hv<;>simp at hv
end
end Go.Am

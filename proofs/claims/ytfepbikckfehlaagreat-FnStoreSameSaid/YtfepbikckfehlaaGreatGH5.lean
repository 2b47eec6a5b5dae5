/- Maps that are written; every operation but a call, all in one. -/
import Derived.Test.YtfepbikckfehlaaGreatGH4
set_option linter.unusedVariables false
set_option linter.unusedSimpArgs false
set_option maxHeartbeats 4000000
namespace Go.Am
open Go
section
variable{P:Program}{E:Env}{w:World}{h:aG}
def uy(E:Env)(w:World)(sz:Nat)(es:List af)(cs:List Value):Prop:=
 cs.length=es.length*sz/\(∀x∈es,x.cells.length=sz)/\ ∀(i:Nat)(x:af),es[i]?=some x-> ∀(j:Nat)(c:af),x.cells[j]?=some c-> ∃v,cs[i*sz+j]?=some v/\de E w c v
theorem uy.append{sz:Nat}{xs ys:List af}{cs ds:List Value}(hx:uy E w sz xs cs)(hy:uy E w sz ys ds):uy E w sz (xs++ys) (cs++ds):=by
 obtain⟨x1,x2,x3⟩:=hx;obtain⟨y1,y2,y3⟩:=hy;refine⟨by simp[x1,y1,Nat.add_mul],fun x hx=>?_,fun i x hx j c hj=>?_⟩
 ·rcases aaS.1 hx with h|h
  ·exact x2 x h
  ·exact y2 x h
 ·by_cases hi:i<xs.length
  ·rw[aaN hi]at hx;obtain⟨v,hv,hr⟩:=x3 i x hx j c hj;exact⟨v,by rw[aaN (aag.1 hv).1];exact hv,hr⟩
  ·rw[aaQ (by omega)]at hx;obtain⟨v,hv,hr⟩:=y3 _ x hx j c hj;refine⟨v,?_,hr⟩
   have dw:cs.length<=i*sz+j:=by
    rw[x1];have:=aa1 sz (show xs.length<=i by omega);omega
   rw[aaQ dw,<-hv,x1]
   congr 1
   rw[Nat.sub_mul];have:=aa1 sz (show xs.length<=i by omega);omega
theorem uy.mono{E':Env}{w':World}{sz:Nat}{xs:List af}{cs:List Value}(h:uy E w sz xs cs)(hr: ∀a v,de E w a v->de E' w' a v):uy E' w' sz xs cs:=
 ⟨h.1,h.2.1,fun i x hx j c hj=>by obtain⟨v,h1,h2⟩:=h.2.2 i x hx j c hj;exact⟨v,h1,hr _ _ h2⟩⟩
theorem Nr{ys:List af}{b o sz:Nat}(hs: ∀y∈ys,y.cells.length=sz)(m7: ∀y∈ys,y.cells.all af.bQ=true)(hc: ∀(i:Nat)(y:af),ys[i]?=some y->jO E w b (o+i*sz) y):
  ∃news:List Value,uy E w sz ys news/\(∀j v,news[j]?=some v->w.cell? ⟨b,o+j,none⟩=some v)/\ ∀u∈news,u.oneCell'=true:=by
   let news:List Value:=(List.range (ys.length*sz)).map fun j=>(w.cell? ⟨b,o+j,none⟩).getD undef
   have hv: ∀k,k<ys.length*sz-> ∃y c v,ys[k/sz]?=some y/\y.cells[k % sz]?=some c/\w.cell? ⟨b,o+k,none⟩=some v/\de E w c v:=by
    intro k hk;have jP:0<sz:=Nat.pos_of_ne_zero fun e=>by subst e;simp at hk
    have hi:k/sz<ys.length:=Nat.div_lt_of_lt_mul (by rw[Nat.mul_comm];exact hk);obtain⟨y,hy⟩:=bP hi;have hj:k % sz<y.cells.length:=by rw[hs y (aaq hy)];exact Nat.mod_lt _ jP
    obtain⟨c,uJ⟩:=bP hj;obtain⟨v,h1,h2⟩:=hc _ y hy _ c uJ;refine⟨y,c,v,hy,uJ,?_,h2⟩;rw[<-h1]
    congr 2
    rw[abI,Nat.mul_comm,Nat.div_add_mod]
   have sf: ∀k v,news[k]?=some v->k<ys.length*sz/\w.cell? ⟨b,o+k,none⟩=some v:=by
    intro k v hk
    have fK:k<ys.length*sz:=by
     have:=(aag.1 hk).1;simpa[news]using this
    obtain⟨_,_,u,_,_,hu,_⟩:=hv k fK;simp[news,fK,hu]at hk;exact⟨fK,by rw[hu,hk]⟩
   refine⟨news,⟨by simp[news],hs,fun i x hx j c hj=>?_⟩,fun j v hj=>(sf j v hj).2,fun u hu=>?_⟩
   ·have Uw:j<sz:=by
     rw[<-hs x (aaq hx)];exact(aag.1 hj).1
    have fK:i*sz+j<ys.length*sz:=by
     have:=aa1 sz (show i+1<=ys.length from(aag.1 hx).1);rw[Nat.succ_mul]at this;omega
    obtain⟨v,h1,h2⟩:=hc i x hx j c hj;rw[abI]at h1;exact⟨v,by simp[news,fK,h1],h2⟩
   ·obtain⟨k,hk⟩:=List.mem_iff_getElem?.1 hu;obtain⟨fK,sI⟩:=sf k u hk;obtain⟨y,c,v,hy,uJ,qy,hr⟩:=hv k fK;rw[sI]at qy;cases qy
    exact hr.bQ (aaj.1 (m7 y (aaq hy)) c (aaq uJ))
theorem JS{sz:Nat}{ys:List af}(h:ys.all (jh sz)=true):(∀y∈ys,y.cells.length=sz)/\ ∀y∈ys,y.cells.all af.bQ=true:=by
 refine⟨fun y hy=>?_,fun y hy=>?_⟩<;>have:=aaj.1 h y hy<;>simp only[jh,xz,beq_iff_eq]at this
 ·exact this.1
 ·exact this.2
theorem Ns(s:eG E h w){x:af}{vx:Value}{ys:List af}{sz:Nat}{tx:TypeId}(hx:de E w x vx)(he:lN h x=some ys)(eb:ys.all (jh sz)=true)
  (hk:(∃e',P.underlying tx=some (.slice e'))∨P.underlying tx=some .string): ∃news,Src P sz tx vx ys.length news w/\uy E w sz ys news:=by
   obtain⟨hs,m7⟩:=JS eb
   by_cases SK: ∃q,x= .str q
   ·obtain⟨q,rfl⟩:=SK;obtain rfl:=hx.str;simp only[lN]at he;cases he
    have hlen:(q.data.toList.map fun b=>af.int .u8 b.toNat).length=q.size:=by simp
    by_cases hq:q.size=0
    ·have JT:(q.data.toList.map fun b=>af.int .u8 b.toNat)=[]:=List.eq_nil_of_length_eq_zero (by rw[hlen];exact hq);rw[JT];refine⟨[],⟨hk,fun w'=>?_,?_,?_,by simp,fun u hu=>by cases hu⟩,by simp,fun x hx=>(by cases hx),fun i x hx=>(by simp at hx)⟩
     ·simp[Builtin.lenOf,hq]
     ·simp[Builtin.firstCells]
     ·simp[Builtin.firstCells]
    ·have h1:sz=1:=by
      cases hl:q.data.toList with
      |nil=>exact absurd (by rw[<-hlen,hl];rfl) hq
      |cons b bs=>
       have:=hs (.int .u8 b.toNat) (by rw[hl];simp);simpa[af.cells]using this.symm
     subst h1
     have vU: ∀w':World,Src P 1 tx (.string q) q.size (byteCells q) w:=fun _=>
      ⟨hk,fun _=>rfl,firstCells_string q w,firstCells_string q w.drew,by rw[byteCells_length,Nat.mul_one],fun u hu=>by
       obtain⟨_,_,rfl⟩:=aaO.1 hu;rfl⟩
     refine⟨byteCells q,by rw[hlen];exact vU w,by rw[byteCells_length,hlen,Nat.mul_one],hs,fun i x hx j c hj=>?_⟩;rw[aba]at hx
     cases hb:q.data.toList[i]? with
     |none=>simp[hb]at hx
     |some b=>
      simp[hb]at hx;subst hx
      cases j with
      |zero=>
       simp[af.cells]at hj;subst hj;refine⟨.int .u8 b.toNat,?_,.fJ (.int _ _)⟩;simp only[byteCells,Nat.mul_one,Nat.add_zero,aba,hb]
       rfl
      |succ j=>simp[af.cells]at hj
   ·obtain⟨a,cap,rfl,gM,b,o,jz,ha,Mh,gN⟩:=sJ s hx he (fun q hq=>SK ⟨q,hq⟩)
    have pX: ∀(a:Addr)(n c:Nat)(news:List Value),news.length=n*sz->(∀j u,news[j]?=some u->w.cell? (a.add j)=some u)->(∀u∈news,u.oneCell'=true)->Src P sz tx (.slice (some a) n c) n news w:=
     fun a n c news hl hn h1=>⟨hk,fun _=>rfl,run_firstCells_some w sz n a n c news hl hn,run_firstCells_some w.drew sz n a n c news hl (by simpa using hn),hl,h1⟩
    by_cases mD:ys=[]
    ·subst mD;refine⟨[],?_,by simp,fun x hx=>(by cases hx),fun i x hx=>(by simp at hx)⟩
     cases a with
     |none=>exact⟨hk,fun _=>rfl,run_firstCells_none w sz 0 0 cap,run_firstCells_none w.drew sz 0 0 cap,by simp,fun u hu=>by cases hu⟩
     |some a=>exact pX a 0 cap [] (by simp) (fun j u hj=>by simp at hj) (fun u hu=>by cases hu)
    ·obtain⟨y0,yr,rfl⟩:=List.exists_cons_of_ne_nil mD;have AD:jz=sz:=by have h1:=hs y0 (by simp);have h2:=Mh y0 (by simp);omega
     subst AD;obtain⟨news,f1,f2,f3⟩:=Nr hs m7 gN;rw[ha mD];exact⟨news,pX _ _ _ news f1.1 (fun j u hj=>by rw[Addr.add_mid];exact f2 j u hj) f3,f1⟩
def Env.move(E:Env)(id new:Nat)(s:Slot):Env:=⟨fun k=>if k=new then some s else if k=id then some .dead else E.m k,E.S⟩
theorem eG.move(s:eG E h w)(hf:Full E h){id b0 b:Nat}{sl0 sl:Slot}{o:dH}{w':World}(hm:E.m id=some sl0)(Ux:sl0.Da=some b0)(dm:id<h.length)(Gt:sl.Da=some b)(hb:b=b0∨b=w.heap.size)
  (lT: ∀i,i<w.heap.size->i≠b0->w'.heap[i]?=w.heap[i]?) (Mg:w.heap.size<=w'.heap.size) (AE:b<w'.heap.size) (VC:w'.os=w.os) (ht:w'.tape=w.tape) (ho:w'.output=w.output)
  (eb:(∀a v,de E w a v->de (E.move id h.length sl) w' a v)->eO (E.move id h.length sl) w' o sl):
  eG (E.move id h.length sl) (h.set id .dead++[o]) w'/\Full (E.move id h.length sl) (h.set id .dead++[o])/\Ext E h w (E.move id h.length sl) (h.set id .dead++[o]) w':=by
   have VG:(E.move id h.length sl).m h.length=some sl:=by simp[Env.move]
   have mid:(E.move id h.length sl).m id=some .dead:=by simp only[Env.move];rw[if_neg (show id≠h.length by omega)];simp
   have Nt: ∀k,k≠h.length->k≠id->(E.move id h.length sl).m k=E.m k:=fun k h1 h2=>by simp only[Env.move];rw[if_neg h1,if_neg h2]
   have im0:E.im b0:=⟨id,sl0,hm,Ux⟩
   have JU: ∀c,(E.move id h.length sl).im c->(c=b∨(E.im c/\c≠b0)):=by
    rintro c ⟨k,s',h1,h2⟩
    by_cases e1:k=h.length
    ·subst e1;rw[VG]at h1;cases h1;rw[Gt]at h2;cases h2;exact .inl rfl
    ·by_cases e2:k=id
     ·subst e2;rw[mid]at h1;cases h1;cases h2
     ·rw[Nt k e1 e2]at h1;exact .inr ⟨⟨k,s',h1,h2⟩,fun e=>by subst e;exact e2 (s.inj k id _ _ _ h1 hm h2 Ux)⟩
   have hx:Ext E h w (E.move id h.length sl) (h.set id .dead++[o]) w':=by
    refine⟨⟨fun _ h=>h,fun _ h=>.inl h,fun c hc hn=>lT c hc fun e=>hn (by subst e;exact im0),fun k s' hs=>?_,fun c hc=>?_,by simp,Mg,VC,ht,ho⟩,fun k h1 h2=>by rw[Nt k (by omega) (fun e=>by subst e;rw[hm]at h2;cases h2)];exact h2⟩
    ·by_cases e1:k=h.length
     ·subst e1;rw[hf _ (aah _)]at hs;cases hs
     ·by_cases e2:k=id
      ·subst e2;exact .inr mid
      ·left;rw[Nt k e1 e2];exact hs
    ·rcases JU c hc with h1|h1
     ·subst h1;rcases hb with rfl|rfl
      ·exact .inl im0
      ·exact .inr (aah _)
     ·exact .inl h1.1
   have hr: ∀a v,de E w a v->de (E.move id h.length sl) w' a v:=fun a v h=>h.ext hx s;refine⟨⟨?_,?_,?_,?_,?_⟩,?_,hx⟩
   ·intro k ob s' hk hs
    by_cases e1:k=h.length
    ·subst e1;rw[VG]at hs;cases hs
     rw[aaQ (by simp)]at hk;simp at hk;subst hk;exact eb hr
    ·have fK:k<h.length:=by
      have:=(aag.1 hk).1;simp at this;omega
     rw[aaN (by simpa using fK),List.getElem?_set]at hk
     by_cases e2:k=id
     ·subst e2;simp[dm]at hk;subst hk;rw[mid]at hs;cases hs
      trivial
     ·rw[if_neg (Ne.symm e2)]at hk;rw[Nt k e1 e2]at hs;refine(s.obj k ob s' hk hs).mono hr fun c hc=>lT c (s.lt c ⟨k,s',hs,hc⟩) fun e=>?_;subst e;exact e2 (s.inj k id _ _ _ hs hm hc Ux)
   ·have key: ∀i si c,(E.move id h.length sl).m i=some si->si.Da=some c->(i=h.length/\c=b)∨(i≠h.length/\i≠id/\E.m i=some si/\c≠b0):=by
     intro i si c hi sF
     by_cases e1:i=h.length
     ·subst e1;rw[VG]at hi;cases hi;rw[Gt]at sF;cases sF;exact .inl ⟨rfl,rfl⟩
     ·by_cases e2:i=id
      ·subst e2;rw[mid]at hi;cases hi;cases sF
      ·rw[Nt i e1 e2]at hi;exact .inr ⟨e1,e2,hi,fun e=>by subst e;exact e2 (s.inj i id _ _ _ hi hm sF Ux)⟩
    have XP: ∀i si c,E.m i=some si->si.Da=some c->c≠b0->c≠b:=by
     intro i si c hi sF hn e;subst e;rcases hb with h1|h1
     ·exact hn h1
     ·have:=s.lt c ⟨i,si,hi,sF⟩;omega
    intro i j si sj c hi hj sF xm;rcases key i si c hi sF with⟨h1,h2⟩|⟨h1,h2,h3,h4⟩<;>rcases key j sj c hj xm with⟨g1,g2⟩|⟨g1,g2,g3,g4⟩
    ·omega
    ·exact absurd h2 (XP j sj c g3 xm g4)
    ·exact absurd g2 (XP i si c h3 sF h4)
    ·exact s.inj i j si sj c h3 g3 sF xm
   ·intro c hc hS;rcases JU c hc with h1|h1
    ·subst h1;rcases hb with rfl|rfl
     ·exact s.nS c im0 hS
     ·exact absurd (s.pM _ hS) (Nat.lt_irrefl _)
    ·exact s.nS c h1.1 hS
   ·intro c hc;rcases JU c hc with h1|h1
    ·subst h1;exact AE
    ·have:=s.lt c h1.1;omega
   ·intro c hc;have:=s.pM c hc;omega
   ·intro k hk;simp at hk;rw[Nt k (by omega) (by omega)];exact hf k (by omega)
theorem eG.of_heap{w':World}(s:eG E h w)(e:w'.heap=w.heap):eG E h w':=
 ⟨fun id o sl ho hm=>(s.obj id o sl ho hm).mono (fun a v hr=>hr.mono (fun _ h=>h) (fun b _=>by rw[e]) (fun _ _ h=>.inl h)) fun b _=>by rw[e],s.inj,s.nS,fun b hb=>by rw[e];exact s.lt b hb,fun b hb=>by rw[e];exact s.pM b hb⟩
theorem de.of_heap{w':World}(e:w'.heap=w.heap){a:af}{v:Value}(h:de E w a v):de E w' a v:=h.mono (fun _ h=>h) (fun b _=>by rw[e]) (fun _ _ h=>.inl h)
theorem yI{z:Array Value}{sz zG cap:Nat}(hz:z.size=sz)(hle:zG<=cap)(cs:List Value)(hl:cs.length=zG*sz):(cs.toArray++Builtin.zeroCells z (cap-zG)).size=cap*sz:=by
 simp only[Array.size_append,List.size_toArray,hl,Builtin.zeroCells,Array.size_map,Array.size_range,hz,<-Nat.add_mul]
 congr 1
 omega
theorem eG.cut(s:eG E h w){id sz:Nat}{es:List af}(n:Nat)(ho:h[id]?=some (.arr sz es)):eG E (h.set id (.arr sz (es.take n))) w where
 obj:=fun j o sl hj hm=>by
  by_cases e:id=j
  ·subst e;rw[List.getElem?_set_self (aag.1 ho).1]at hj;cases hj
   have:=s.obj id _ sl ho hm;cases sl<;>simp only[eO]at this⊢
   obtain⟨rfl,h1,h2,h3,h4⟩:=this
   exact⟨rfl,h1,aa3 (aa1 _ (by simp;omega)) h2,fun x hx=>h3 x (abz hx),fun i x hx=>h4 i x (by
    rw[aby]at hx;split at hx
    ·exact hx
    ·cases hx)⟩
  ·rw[abJ e]at hj;exact s.obj j o sl hj hm
 inj:=s.inj
 nS:=s.nS
 lt:=s.lt
 pM:=s.pM
theorem Eo(s:eG E h w)(hf:Full E h){t tx ty:TypeId}{a x r:af}{va vx:Value}{h':aG}(hh:ji P t a x h=some (r,h'))(ha:de E w a va)(hx:de E w x vx)
  (hk:(∃e',P.underlying tx=some (.slice e'))∨P.underlying tx=some .string):
  ∃u w' E',(Builtin.append_ #[t,tx] ty #[va,vx]).run P w= .ok u w'/\eG E' h' w'/\Full E' h'/\Ext E h w E' h' w'/\de E' w' r u:=by
   unfold ji at hh;split at hh
   ·rename_i e sz ys Aw hys;obtain⟨i,hu,hi,Cx,hby,jP,z,hz,xD⟩:=lz Aw;split at hh
    ·rename_i aF;obtain⟨news,aam,vV⟩:=Ns (tx:=tx) s hx hys aF hk;have GN:Src P i.size tx vx ys.length news w:=by rw[Cx];exact aam
     have XQ: ∀{old zG:Nat},old<zG->zG<=bB->Builtin.nextslicecap zG old*i.bytes<=281474976710656:=by
      intro old zG h1 h2;refine growslice_fits h1 ?_
      have:=Nat.mul_le_mul h2 hby
      unfold bB at this;omega
     have JR: ∀{zG:Nat},zG<=bB->((zG:Nat):Int)<=9223372036854775807:=by
      intro zG h1;unfold bB at h1;omega
     split at hh
     ·-- onto nil
      cases ha with
      |fJ ha=>
       cases ha with
       |nil ad=>
        split at hh
        ·rename_i he;cases hh
         subst he;have JT:news=[]:=List.eq_nil_of_length_eq_zero (by rw[vV.1];simp);subst JT;exact⟨_,w,E,run_append_nothing w t tx ty e i hu hi ad 0 0 (aah _) vx GN,s,hf,Ext.refl _ _ _,.fJ (.nil ad)⟩
        ·rename_i he;split at hh
         ·rename_i hle;cases hh
          have vR:0<0+ys.length:=by
           have:=List.length_pos_iff.2 he;omega
          have hold:(Builtin.firstCells i.size 0 (.slice ad 0 0)).run P w.drew= .ok ([]:List Value).toArray w.drew:=by
           cases ad with
           |none=>simp[Builtin.firstCells]
           |some ad=>exact run_firstCells_some w.drew i.size 0 ad 0 0 [] (by simp) (fun j u hj=>by simp at hj)
          have gq:=run_append_grow_src (ty:=ty) w t tx e i z hu hi hz ad 0 0 [] hold vx ys.length news GN vR (JR (by omega)) (XQ vR (by omega));simp only[aaK,List.nil_append]at gq;have dw:=grownCap_ge w ys.length 0 e;have sL:=yI (z:=z.cells) xD dw news vV.1;have s':eG E h w.drew:=s.of_heap rfl;have s'':eG E (h++[.arr sz ys]) w.drew:=s'.more ⟨_,rfl⟩ hf
          obtain⟨p1,p2⟩:=s''.place (id:=h.length) (o:=.arr sz ys) (.cells (news.toArray++Builtin.zeroCells z.cells (grownCap w ys.length 0 e-ys.length)) e) (.live w.heap.size (grownCap w ys.length 0 e*sz) sz)
           (by simp) (hf _ (aah _)) rfl
           ⟨rfl,by rw[<-sL];exact zR w.drew _ e,aa1 _ dw,vV.2.1,fun k y hy j c hj=>by
            obtain⟨v,g1,g2⟩:=vV.2.2 k y hy j c hj;refine⟨v,?_,(de.of_heap (w:=w) (w':=w.drew) rfl g2).put s' _ (hf _ (aah _)) _⟩;have:=vQ w.drew (news.toArray++Builtin.zeroCells z.cells (grownCap w ys.length 0 e-ys.length)) e (k*sz+j);refine Eq.trans this ?_;rw[Array.getElem?_append_left (by simpa using(aag.1 g1).1)];simpa using g1⟩
          refine⟨_,_,_,gq,p1,fun k hk=>?_,?_,?_⟩
          ·simp[pL]at hk;rw[Env.dW E _ (by omega)];exact hf k (by omega)
          ·exact⟨⟨p2.S,p2.SN,p2.mem,p2.m,p2.new,by simp[pL],p2.size,p2.os,p2.tape,p2.output⟩,fun k g1 g2=>by rw[Env.dW _ _ (by omega)];exact g2⟩
          ·refine .own _ 0 _ _ _ _ _ sz (Env.gn E _ _) dw (.inr ⟨by simp,?_⟩);rw[aaK];exact aah _
         ·cases hh
     ·rename_i id st len
      cases ho:h[id]? with
      |none=>simp[ho]at hh
      |some o=>
       have UA:id<h.length:=(aag.1 ho).1;cases o<;>simp only[ho]at hh<;>try(cases hh;done)
       rename_i jz es;split at hh
       ·rename_i hc;obtain⟨rfl,hse,hlen⟩:=hc;subst hse
        cases ha with
        |fJ hc=>cases hc
        |sE _ _ _ ad cap hm gM=>
         have:=s.obj id _ _ ho hm
         simp[eO]at this
        |own _ _ _ ad cap b jB Xi hm gM hp=>
         have VH:=s.obj id _ _ ho hm;simp only[eO]at VH;obtain⟨rfl,eQ,hle,hs,gN⟩:=VH;split at hh
         ·rename_i he;cases hh
          subst he;have JT:news=[]:=List.eq_nil_of_length_eq_zero (by rw[vV.1];simp);subst JT;exact⟨_,w,E,run_append_nothing w t tx ty e i hu hi ad len cap gM vx GN,s.cut len ho,fun k hk=>hf k (by simpa using hk),⟨⟨fun _ h=>h,fun _ h=>.inl h,fun _ _ _=>rfl,fun _ _ h=>.inl h,fun _ h=>.inl h,by simp,aah _,rfl,rfl,rfl⟩,fun _ _ h=>h⟩,.own id 0 len ad cap b jB jz hm gM hp⟩
         ·rename_i he;split at hh
          ·rename_i UB;cases hh
           have vR:0<ys.length:=List.length_pos_iff.2 he;have dN: ∀x∈es.take len,x.cells.length=jz:=fun x hx=>hs x (abz hx);have fK:(es.take len).length=len:=by simp;omega
           by_cases Mi:len+ys.length<=cap
           ·-- there is room
            rcases hp with⟨h1,h2⟩|⟨rfl,hp⟩
            ·omega
            ·rw[aaK]at hp;rw[Nat.zero_mul]at*;have Mj:news.length=ys.length*jz:=vV.1
             have UC: ∀j,j<news.length->len*jz+j<jB:=by
              intro j hj;have h3:=aa1 jz Mi;rw[Nat.add_mul]at h3;omega
             have gq:=run_append_room_src (ty:=ty) w t tx e i hu hi b 0 len cap vx ys.length news GN Mi (fun j hj=>by rw[Cx,aaK];exact eQ.isSome (UC j hj)) (fun j hj=>eQ.frozen _);rw[Cx,aaK]at gq;obtain⟨f1,f2,f3,f4,f5⟩:=oF b news (len*jz) w
             obtain⟨p1,p2,p3⟩:=s.move hf (w':=w.setCells b (len*jz) news) (sl:=.live b jB jz) (o:=.arr jz (es.take len++ys)) hm rfl UA rfl (.inl rfl) (fun i _ hi=>f5 i hi) (by omega) (by rw[f1];exact eQ.lt) f2 f3 f4 fun hr=>by
              refine⟨rfl,eQ.setCells b _ _ _,?_,fun x hx=>?_,fun k y hy j c hj=>?_⟩
              ·rw[abv,fK];exact aa3 (aa1 _ Mi) hp
              ·rcases aaS.1 hx with hx|hx
               ·exact dN x hx
               ·exact vV.2.1 x hx
              ·by_cases hk:k<len
               ·rw[aaN (by omega),aby,if_pos hk]at hy;obtain⟨v,g1,g2⟩:=gN k y hy j c hj;have Uw:j<jz:=by rw[<-hs y (aaq hy)];exact(aag.1 hj).1
                refine⟨v,?_,hr _ _ g2⟩;rw[World.cell?_setCells_out b _ _ _ _ (fun _ _=>.inl ?_),g1];show k*jz+j<len*jz;have:=aa1 jz (show k+1<=len from hk);rw[Nat.succ_mul]at this;omega
               ·rw[aaQ (by omega),fK]at hy;obtain⟨v,g1,g2⟩:=vV.2.2 _ y hy j c hj;refine⟨v,?_,hr _ _ g2⟩;have XS:=(aag.1 g1).1;have:=World.cell?_setCells_in b news (len*jz) w (fun j hj=>eQ.isSome (UC j hj)) _ XS
                have e1:len*jz+((k-len)*jz+j)=k*jz+j:=by
                 rw[Nat.sub_mul];have:=aa1 jz (show len<=k by omega);omega
                rw[e1]at this;rw[this,<-g1];simp[aab XS]
             refine⟨_,_,E.move id h.length (.live b jB jz),gq,p1,p2,p3,?_⟩
             ·have Cu:(es.take len++ys).length=len+ys.length:=by rw[abv,fK]
              have:de (E.move id h.length (.live b jB jz)) (w.setCells b (len*jz) news) (.own h.length 0 (len+ys.length)) (.slice (some ⟨b,0,none⟩) (len+ys.length) cap):=
               .own _ 0 _ _ _ b jB jz (by simp[Env.move]) Mi (.inr ⟨by simp,by simpa using hp⟩)
              simpa[pL,Cu]using this
           ·-- there is none
            have m7: ∀y∈es.take len,y.cells.all af.bQ=true->True:=fun _ _ _=>trivial
            have hold: ∃olds:List Value,(Builtin.firstCells i.size len (.slice ad len cap)).run P w.drew= .ok olds.toArray w.drew/\uy E w jz (es.take len) olds:=by
             rcases hp with⟨h1,h2⟩|⟨rfl,hp⟩
             ·subst h1;refine⟨[],?_,by simp,fun x hx=>(by simp at hx),fun i x hx=>(by simp at hx)⟩
              cases ad with
              |none=>simp[Builtin.firstCells]
              |some ad=>exact run_firstCells_some w.drew i.size 0 ad 0 cap [] (by simp) (fun j u hj=>by simp at hj)
             ·let olds:List Value:=(List.range (len*jz)).map fun j=>(w.cell? ⟨b,j,none⟩).getD undef
              have XT: ∀k,k<len*jz-> ∃v,w.cell? ⟨b,k,none⟩=some v:=by
               intro k hk;refine Option.isSome_iff_exists.1 (eQ.isSome ?_);have:=aa1 jz hlen;omega
              have sf: ∀k v,olds[k]?=some v->w.cell? ⟨b,k,none⟩=some v:=by
               intro k v hk
               have fK:k<len*jz:=by
                have:=(aag.1 hk).1;simpa[olds]using this
               obtain⟨u,hu⟩:=XT k fK;simp[olds,fK,hu]at hk;rw[hu,hk]
              refine⟨olds,run_firstCells_some w.drew i.size len _ len cap olds (by simp[olds,Cx]) (fun j u hj=>?_),by simp[olds,fK],dN,fun k y hy j c hj=>?_⟩
              ·rw[Addr.add_mid];simpa using sf j u hj
              ·have hk:k<len:=by have:=(aag.1 hy).1;omega
               rw[aby,if_pos hk]at hy;obtain⟨v,g1,g2⟩:=gN k y hy j c hj;have Uw:j<jz:=by rw[<-hs y (aaq hy)];exact(aag.1 hj).1
               have aan:k*jz+j<len*jz:=by
                have:=aa1 jz (show k+1<=len from hk);rw[Nat.succ_mul]at this;omega
               exact⟨v,by simp[olds,aan,g1],g2⟩
            obtain⟨olds,JJ,GL⟩:=hold;have UD:cap<len+ys.length:=by omega
            have gq:=run_append_grow_src (ty:=ty) w t tx e i z hu hi hz ad len cap olds JJ vx ys.length news GN UD (JR UB) (XQ UD UB);have dw:=grownCap_ge w (len+ys.length) cap e;have hfa:=GL.append vV;have Cu:(es.take len++ys).length=len+ys.length:=by rw[abv,fK]
            have jM:(olds++news).length=(len+ys.length)*jz:=by rw[hfa.1,Cu]
            have sL:=yI (z:=z.cells) xD dw (olds++news) jM;generalize hW:w.drew.alloc (.cells ((olds++news).toArray++Builtin.zeroCells z.cells (grownCap w (len+ys.length) cap e-(len+ys.length))) e)=W at gq;have hWo: ∀j,j<w.heap.size->W.heap[j]?=w.heap[j]?:=fun j hj=>by rw[<-hW];exact eX w.drew _ hj
            have hWs:W.heap.size=w.heap.size+1:=by rw[<-hW];exact Array.size_push _
            obtain⟨p1,p2,p3⟩:=s.move hf (w':=W) (sl:=.live w.heap.size (grownCap w (len+ys.length) cap e*jz) jz) (o:=.arr jz (es.take len++ys)) hm rfl UA rfl (.inr rfl) (fun i hi _=>hWo i hi) (by omega) (by omega)
             (by rw[<-hW];rfl) (by rw[<-hW];rfl) (by rw[<-hW];rfl) fun hr=>by
              refine⟨rfl,?_,by rw[Cu];exact aa1 _ dw,hfa.2.1,fun k y hy j c hj=>?_⟩
              ·rw[<-sL,<-hW];exact zR w.drew _ e
              ·obtain⟨v,g1,g2⟩:=hfa.2.2 k y hy j c hj;refine⟨v,?_,hr _ _ g2⟩;have:=vQ w.drew ((olds++news).toArray++Builtin.zeroCells z.cells (grownCap w (len+ys.length) cap e-(len+ys.length))) e (k*jz+j);rw[hW]at this;refine Eq.trans this ?_;rw[Array.getElem?_append_left (by simpa using(aag.1 g1).1)];simpa using g1
            refine⟨_,_,E.move id h.length (.live w.heap.size (grownCap w (len+ys.length) cap e*jz) jz),gq,p1,p2,p3,?_⟩
            ·have:de (E.move id h.length (.live w.heap.size (grownCap w (len+ys.length) cap e*jz) jz)) W (.own h.length 0 (len+ys.length)) (.slice (some ⟨w.heap.size,0,none⟩) (len+ys.length) (grownCap w (len+ys.length) cap e)):=
              .own _ 0 _ _ _ w.heap.size (grownCap w (len+ys.length) cap e*jz) jz (by simp[Env.move]) dw (.inr ⟨by simp,by rw[aaK];exact aah _⟩)
             simpa[pL,Cu]using this
          ·cases hh
       ·cases hh
     ·cases hh
    ·cases hh
   ·cases hh
end
end Go.Am
set_option maxHeartbeats 4000000
namespace Go.Am
open Go MapKept
section
variable{P:Program}{E:Env}{w:World}{h:aG}
theorem Ep(x y:ByteArray)(h:(x==y)=true):y=x:=by
 cases x;cases y
 rename_i a b;have:(a==b)=true:=h;rw[eq_of_beq this]
theorem JV{d:TypeDesc}{a b:Value}(hk:IsKey d a)(h:Instr.sameNow d a b=some true):b=a:=by
 cases d<;>cases a<;>(try exact hk.elim)<;>cases b<;>(try(simp[Instr.sameNow]at h;done))
 ·rename_i x y;simp[Instr.sameNow]at h;rw[h]
 ·rename_i k k1 x k2 y;simp only[Instr.sameNow]at h;split at h
  ·rename_i e;subst e;simp at h;rw[h]
  ·cases h
 ·rename_i x y;simp only[Instr.sameNow,Option.some.injEq]at h;rw[(Ep x y h)]
theorem Dk(s:eG E h w)(hf:Full E h){t:TypeId}{m k v:af}{vm vk vv:Value}{h':aG}(hh:Eh P t m k v h=some h')(hm:de E w m vm)(hk:de E w k vk)(hv:de E w v vv):
  ∃w',(Instr.mapUpdate t vm vk vv).run P w= .ok () w'/\eG E h' w'/\Full E h'/\Ext E h w E h' w':=by
   unfold Eh at hh;split at hh
   ·rename_i kt et id SO;have hu:=Dg SO;obtain⟨b,rfl,Cv⟩:=hm.map'
    cases ho:h[id]? with
    |none=>simp[ho]at hh
    |some o=>
     have fK:id<h.length:=(aag.1 ho).1;cases o<;>simp only[ho]at hh<;>try(cases hh;done)
     rename_i ks vs;rcases Cv with Cv|Cv
     case inr=>
      have:=s.obj id _ _ ho Cv;simp[eO]at this
     split at hh
     ·rename_i Nn;obtain⟨d,hd⟩:=Ay Nn;have hK:=yF hd Nn hk;have VH:=s.obj id _ _ ho Cv;simp only[eO]at VH;obtain⟨es,clock,hb,Jy,Cu,O9,jk⟩:=VH;have AE:b<w.heap.size:=(aaR.1 hb).1
      have fin: ∀(Jz:Array MapEntry)(Er:Nat)(kC fx:List af),(Instr.mapUpdate t (.map (some b)) vk vv).run P w= .ok () {w with heap:=w.heap.setIfInBounds b (.map Jz Er)}->
        kC.length=Jz.size->fx.length=Jz.size->
        (∀(i:Nat)(k:af)(e:MapEntry),kC[i]?=some k->Jz[i]?=some e->de E w k e.key)->(∀(i:Nat)(v:af)(e:MapEntry),fx[i]?=some v->Jz[i]?=some e->de E w v e.val)->
        ∃w',(Instr.mapUpdate t (.map (some b)) vk vv).run P w= .ok () w'/\eG E (h.set id (.qv kC fx)) w'/\Full E (h.set id (.qv kC fx))/\Ext E h w E (h.set id (.qv kC fx)) w':=by
         intro Jz Er kC fx gq h1 h2 h3 h4
         have hw:=s.write (w':={w with heap:=w.heap.setIfInBounds b (.map Jz Er)}) (o':=.qv kC fx) Cv rfl fK (by simp) (fun i hi=>by simp[Ne.symm hi]) rfl rfl rfl fun hr=>
          ⟨Jz,Er,by simp[AE],h1,h2,fun i k e hk he=>hr _ _ (h3 i k e hk he),fun i v e hv he=>hr _ _ (h4 i v e hv he)⟩
         exact⟨_,gq,hw.1,fun k hk=>hf k (by simpa using hk),hw.2.1⟩
      cases JW:pU P kt k ks 0 with
      |none=>simp[JW]at hh
      |some q=>
       obtain⟨g1,g2⟩:=Ax hd hk ks es.toList 0 q JW (by simpa using Jy) (fun i k e hk he=>O9 i k e hk (by simpa using he))
       cases q with
       |none=>
        simp only[JW]at hh;cases hh
        refine fin (es.push {key:=vk,val:=vv,born:=clock}) (clock+1) _ _ ?_ (by simp[Jy]) (by simp[Cu]) (fun i k' e zE he=>?_) (fun i v' e qy he=>?_)
        ·simp[Instr.mapUpdate,run_underlying hu,MapKept.run_getObj_map hb,MapKept.run_checkKey hd hK,MapKept.run_findKey hd (g1 rfl),MapKept.run_setObj_map _ hb]
        ·rw[Array.getElem?_push]at he
         by_cases e1:i=es.size
         ·subst e1;simp at he;rw[aaQ (by omega)]at zE;simp[Jy]at zE;subst zE he;exact hk
         ·rw[if_neg e1]at he;have:=(aaR.1 he).1;rw[aaN (by omega)]at zE;exact O9 i k' e zE he
        ·rw[Array.getElem?_push]at he
         by_cases e1:i=es.size
         ·subst e1;simp at he;rw[aaQ (by omega)]at qy;simp[Cu]at qy;subst qy he;exact hv
         ·rw[if_neg e1]at he;have:=(aaR.1 he).1;rw[aaN (by omega)]at qy
          exact jk i v' e qy he
       |some i=>
        simp only[JW]at hh;cases hh
        obtain⟨_,e0,XU,Jw,pY⟩:=g2 i rfl;simp at XU;have XV:=JV hK pY;have XW:((es[i]?).map (·.key)).getD vk=vk:=by rw[XU];simp[XV]
        refine fin (es.modify i fun e=>{e with key:=vk,val:=vv}) clock _ _ ?_ (by simp[Jy]) (by simp[Cu]) (fun j k' e zE he=>?_) (fun j v' e qy he=>?_)
        ·simp[Instr.mapUpdate,run_underlying hu,MapKept.run_getObj_map hb,MapKept.run_checkKey hd hK,MapKept.run_findKey hd Jw,XW,MapKept.run_keyThatStays hK,MapKept.run_setObj_map _ hb]
        ·rw[Array.getElem?_modify]at he
         by_cases e1:i=j
         ·subst e1;simp[XU]at he;subst he;simpa[XV]using O9 i k' e0 zE XU
         ·rw[if_neg e1]at he;exact O9 j k' e zE he
        ·rw[Array.getElem?_modify]at he
         by_cases e1:i=j
         ·subst e1;simp[XU]at he;subst he;rw[List.getElem?_set]at qy;split at qy
          ·split at qy
           ·cases qy;exact hv
           ·cases qy
          ·rename_i hn;exact absurd rfl hn
         ·rw[if_neg e1]at he;rw[List.getElem?_set,if_neg e1]at qy;exact jk j v' e qy he
     ·cases hh
   ·cases hh
end
section
variable{cf:eP}{E:Env}{w:World}{tm:Nat->af}{ρ:Operand->Value}
theorem yJ{h h':aG}{o:Op}{v:af}(hm:oB o=true)(hv:aV cf tm h o=some (.val v h')):h <+: h':=by
 by_cases Em:lR o=true
 ·obtain⟨v',he⟩:=oy Em hv;cases he
  exact aa2 _
 cases o<;>(try(exact absurd hm Em))<;>(try(simp only[oB]at hm;cases hm;done))
 all_goals simp only[aV]at hv
 case alloc t=>
  simp only[nM]at hv;obtain⟨z,hz,he⟩:=hv;cases he
  exact⟨_,rfl⟩
 case box t x=>
  simp only[nM]at hv;obtain⟨z,hz,he⟩:=hv;cases he
  exact⟨_,rfl⟩
 case build t ps=>
  split at hv
  ·split at hv
   ·split at hv
    ·cases hv;exact aa2 _
    ·cases hv
   ·cases hv
  ·cases hv
 case buildSlice t n ps=>
  split at hv
  ·split at hv
   ·split at hv
    ·split at hv
     ·split at hv
      ·cases hv
       cases n with
       |zero=>exact aa2 _
       |succ n=>exact⟨_,rfl⟩
      ·cases hv
     ·cases hv
    ·cases hv
   ·cases hv
  ·cases hv
 case makeMap t r=>
  cases r with
  |some r=>simp[oB,lR]at hm
  |none=>simp only at hv;cases hv;exact⟨_,rfl⟩
 case makeSlice t l c=>
  split at hv
  ·simp only[nM]at hv;obtain⟨q,hq,he⟩:=hv;cases he
   unfold Gn at hq;split at hq
   ·split at hq
    ·split at hq
     ·split at hq
      ·cases hq;exact⟨_,rfl⟩
      ·cases hq
     ·cases hq
    ·cases hq
   ·cases hq
  ·cases hv
theorem Gc.full{h H:aG}{x:Sem Next}{v:af}(hp:h <+: H)(hf:Full E h)(hx:Gc cf.P E H w x v h.length H.length):okw cf.P E h w x v H:=by
 obtain⟨u,w',E',h1,h2,h3,h4,h5⟩:=hx;refine⟨u,w',E',.inl h1,h2,fun k hk=>?_,?_,h4⟩
 ·rcases h5 k with h|h
  ·rw[h];exact hf k (aa3 hp.length_le hk)
  ·omega
 ·exact⟨⟨h3.S,h3.SN,h3.mem,h3.m,h3.new,aa3 hp.length_le h3.len,h3.size,h3.os,h3.tape,h3.output⟩,fun k g1 g2=>(h5 k).elim (fun h=>h.trans g2) fun h=>by omega⟩
theorem AF{h h':aG}(s:eG E h w)(hf:Full E h){o:Oper}{v:af}(hr:iA cf.G E w tm ρ o.op.operands)(hv:aV cf tm h o.op=some (.val v h')):okw cf.P E h w (execOp ρ o) v h':=by
 by_cases hm:oB o.op=true
 ·have hp:=yJ hm hv;exact Gc.full hp hf (rp (s.more hp hf) hm hr hv (aa2 _) (fun k h1 _=>hf k h1)).2
 obtain⟨dst,op,ty,pos,after,guard⟩:=o;simp only at hr hv hm;cases op<;>(try(exact absurd rfl hm))<;>(try(simp[aV]at hv;done))
 case store t a x=>
  simp only[aV]at hv;simp only[Op.operands]at hr;split at hv
  ·rename_i av xv ha hx;simp only[nM]at hv;obtain⟨q,hq,he⟩:=hv;cases he
   obtain⟨w',h1,h2,h3,h4⟩:=GM s hf hq (hr a (by simp) _ ha) (hr x (by simp) _ hx);exact⟨undef,w',E,.inr ⟨by simp[execOp,h1],rfl⟩,h2,h3,h4,.fJ (.eT [] #[] rfl fun i c v hc=>by simp at hc)⟩
  ·cases hv
 case makeMap t r=>
  cases r with
  |none=>exact absurd rfl hm
  |some r=>simp[aV]at hv
 case mapUpdate t m k x=>
  simp only[aV]at hv;simp only[Op.operands]at hr;split at hv
  ·rename_i mv kv xv ja hk hx;simp only[nM]at hv;obtain⟨q,hq,he⟩:=hv;cases he
   obtain⟨w',h1,h2,h3,h4⟩:=Dk s hf hq (hr m (by simp) _ ja) (hr k (by simp) _ hk) (hr x (by simp) _ hx);exact⟨undef,w',E,.inr ⟨by simp[execOp,h1],rfl⟩,h2,h3,h4,.fJ (.eT [] #[] rfl fun i c v hc=>by simp at hc)⟩
  ·cases hv
 case insert t m k x=>
  simp only[aV]at hv;simp only[Op.operands]at hr;split at hv
  ·rename_i mv kv xv ja hk hx;simp only[nM]at hv;obtain⟨q,hq,he⟩:=hv;cases he
   obtain⟨w',h1,h2,h3,h4⟩:=Dk s hf hq (hr m (by simp) _ ja) (hr k (by simp) _ hk) (hr x (by simp) _ hx);exact⟨undef,w',E,.inr ⟨by simp[execOp,h1],rfl⟩,h2,h3,h4,.fJ (.eT [] #[] rfl fun i c v hc=>by simp at hc)⟩
  ·cases hv
 case call c=>
  obtain⟨callee,args,ui⟩:=c
  cases callee with
  |value f=>
   exfalso;simp only[aV,dG]at hv;split at hv
   ·cases hv
   ·split at hv
    ·split at hv<;>simp at hv
    ·cases hv
  |invoke r m=>
   exfalso;simp only[aV,dG]at hv;split at hv
   ·cases hv
   ·split at hv
    ·split at hv
     ·split at hv<;>simp at hv
     ·cases hv
    ·cases hv
  |builtin b=>
   have VI: ∃as,di (ev cf.G tm) args.toList=some as:=by
    simp only[aV,dG]at hv
    cases ha:di (ev cf.G tm) args.toList with
    |none=>simp[ha]at hv
    |some as=>exact⟨as,rfl⟩
   obtain⟨as,ha⟩:=VI;obtain⟨hl,So⟩:=iA.list hr (ys:=args) (fun y hy=>by simp[Op.operands,Call.operands,hy]) ha;cases b<;>(try(exact absurd rfl hm))<;>(try(simp[aV,dG,ha]at hv;done))
   case append=>
    have h2: ∃a x,as=[a,x]:=by
     simp only[aV,dG,ha]at hv
     match as,hv with
     | [a,x],_=>exact⟨a,x,rfl⟩
     | [],hv=>cases hv
     | [_],hv=>cases hv
     |_::_::_::_,hv=>cases hv
    obtain⟨a,x,rfl⟩:=h2
    have h1: ∃va vx,args.map ρ= #[va,vx]:=by
     generalize args.map ρ=vs at hl
     match vs,hl with
     |⟨[]⟩,hl=>simp at hl
     |⟨[_]⟩,hl=>simp at hl
     |⟨[u,u']⟩,_=>exact⟨u,u',rfl⟩
     |⟨_::_::_::_⟩,hl=>simp at hl
    obtain⟨va,vx,hvx⟩:=h1;rw[hvx]at So;have ra:de E w a va:=So 0 a va rfl rfl;have rx:de E w x vx:=So 1 x vx rfl rfl;simp only[aV,dG,ha]at hv;split at hv
    ·rename_i t d ht hd;simp only[abC]at hd;obtain⟨tx,htx,hd⟩:=hd
     have fin: ∀q,ji cf.P t a x h=some q->(.val q.1 q.2:JD)= .val v h'->((∃e',cf.P.underlying tx=some (.slice e'))∨cf.P.underlying tx=some .string)->
       okw cf.P E h w (execOp ρ ⟨dst,.call ⟨.builtin .append,args,ui⟩,ty,pos,after,guard⟩) v h':=by
        intro q hq he hk;cases he
        obtain⟨u,w',E',g1,g2,g3,g4,g5⟩:=Eo (ty:=ty) s hf hq ra rx hk;refine⟨u,w',E',.inl ?_,g2,g3,g4,g5⟩;have e:Builtin.append_ ui ty #[va,vx]=Builtin.append_ #[t,tx] ty #[va,vx]:=by simp[Builtin.append_,ht,htx]
        simp only[execOp,resolve,hvx,invoke,builtin,aa7,Sem.run_pure,aaE,e,g1]
     split at hv
     ·rename_i e';simp only[nM]at hv;obtain⟨q,hq,he⟩:=hv;exact fin q hq he (.inl ⟨e',hd⟩)
     ·simp only[nM]at hv;obtain⟨q,hq,he⟩:=hv;exact fin q hq he (.inr hd)
     ·cases hv
    ·cases hv
 case panic x=>
  simp only[aV]at hv;split at hv<;>simp at hv
end
end Go.Am

/- The operations that write: stores, appends, maps. -/
import Derived.Test.YtfepbikckfehlaaGreatGH3
import Derived.Great.BuildSlice
set_option linter.unusedVariables false
set_option linter.unusedSimpArgs false
set_option maxHeartbeats 4000000
namespace Go.Am
open Go
theorem dL.place{E:Env}{H:aC}{w:World}(s:dL E H w){id:Nat}{o:cJ}(ob:Obj)(sl:Slot)(cq:H[id]?=some o)(hn:E.m id=none)(HN:sl.BC=some w.heap.size)
  (dt:dR (E.put id sl) (w.alloc ob) o sl):dL (E.put id sl) H (w.alloc ob)/\pU E H w (E.put id sl) H (w.alloc ob):=by
   have kY: ∀k s',E.m k=some s'->k≠id:=fun k s' hs e=>by subst e;rw[hn]at hs;cases hs
   have hx:pU E H w (E.put id sl) H (w.alloc ob):=by
    refine⟨fun _ h=>h,fun _ h=>.inl h,fun b hb _=>d7 w ob hb,fun k s' hs=>.inl ?_,fun b hb=>?_,aB _,by simp,rfl,rfl,rfl⟩
    ·rw[Env.dj E sl (kY k s' hs)];exact hs
    ·obtain⟨k,s',h1,h2⟩:=hb
     by_cases e:k=id
     ·subst e;rw[Env.fi]at h1;cases h1;rw[HN]at h2;cases h2;exact .inr (aB _)
     ·rw[Env.dj E sl e]at h1;exact .inl ⟨k,s',h1,h2⟩
   refine⟨⟨?_,?_,?_,?_,?_⟩,hx⟩
   ·intro k o' s' ho hs
    by_cases e:k=id
    ·subst e;rw[Env.fi]at hs;cases hs
     rw[cq]at ho;cases ho
     exact dt
    ·rw[Env.dj E sl e]at hs;exact(s.obj k o' s' ho hs).mono (fun a v hr=>hr.QO hx s) fun b hb=>d7 w ob (s.lt b ⟨k,s',hs,hb⟩)
   ·intro i j si sj b hi hj rj vD
    by_cases ei:i=id<;>by_cases ej:j=id
    ·omega
    ·subst ei;rw[Env.fi]at hi;cases hi
     rw[Env.dj E sl ej]at hj;rw[HN]at rj;cases rj
     exact absurd (s.lt _ ⟨j,sj,hj,vD⟩) (Nat.lt_irrefl _)
    ·subst ej;rw[Env.fi]at hj;cases hj
     rw[Env.dj E sl ei]at hi;rw[HN]at vD;cases vD
     exact absurd (s.lt _ ⟨i,si,hi,rj⟩) (Nat.lt_irrefl _)
    ·rw[Env.dj E sl ei]at hi;rw[Env.dj E sl ej]at hj;exact s.inj i j si sj b hi hj rj vD
   ·intro b hb hS;obtain⟨k,s',h1,h2⟩:=hb
    by_cases e:k=id
    ·subst e;rw[Env.fi]at h1;cases h1;rw[HN]at h2;cases h2;exact absurd (s.nQ _ hS) (Nat.lt_irrefl _)
    ·rw[Env.dj E sl e]at h1;exact s.nS b ⟨k,s',h1,h2⟩ hS
   ·intro b hb;obtain⟨k,s',h1,h2⟩:=hb
    by_cases e:k=id
    ·subst e;rw[Env.fi]at h1;cases h1;rw[HN]at h2;cases h2;simp
    ·rw[Env.dj E sl e]at h1;have:=s.lt b ⟨k,s',h1,h2⟩;simp;omega
   ·intro b hb;have:=s.nQ b hb;simp;omega
theorem dL.anon{E:Env}{H:aC}{w:World}(s:dL E H w)(ob:Obj):dL E H (w.alloc ob)/\pU E H w E H (w.alloc ob):=by
 have hx:pU E H w E H (w.alloc ob):=⟨fun _ h=>h,fun _ h=>.inl h,fun b hb _=>d7 w ob hb,fun _ _ h=>.inl h,fun _ h=>.inl h,aB _,by simp,rfl,rfl,rfl⟩;exact⟨⟨fun id o sl ho hm=>(s.obj id o sl ho hm).mono (fun a v hr=>hr.QO hx s) fun b hb=>d7 w ob (s.lt b ⟨id,sl,hm,hb⟩),s.inj,s.nS,fun b hb=>by have:=s.lt b hb;simp;omega,fun b hb=>by have:=s.nQ b hb;simp;omega⟩,hx⟩
theorem dL.sub{E:Env}{h H:aC}{w:World}(s:dL E H w)(hp:h <+: H):dL E h w:=
 ⟨fun id o sl ho hm=>s.obj id o sl (by obtain⟨t,rfl⟩:=hp;rw[bp (az.1 ho).1];exact ho) hm,s.inj,s.nS,s.lt,s.nQ⟩
theorem dL.more{E:Env}{h H:aC}{w:World}(s:dL E h w)(hp:h <+: H)(hf: ∀k,h.length<=k->E.m k=none):dL E H w:=by
 refine⟨fun id o sl ho hm=>s.obj id o sl ?_ hm,s.inj,s.nS,s.lt,s.nQ⟩;have eH:id<h.length:=Nat.lt_of_not_le fun hc=>by rw[hf id hc]at hm;cases hm
 obtain⟨t,rfl⟩:=hp;rw[bp eH]at ho;exact ho
theorem uf(w:World)(cs:Array Value)(el:TypeId)(j:Nat):(w.alloc (.cells cs el)).cell? ⟨w.heap.size,j,none⟩=cs[j]?:=by
 simp only[World.cell?,heap_alloc_new];rfl
theorem yq(w:World)(cs:Array Value)(el:TypeId):Row (w.alloc (.cells cs el)) w.heap.size cs.size:=⟨cs,el,heap_alloc_new w _,rfl⟩
theorem ck.put{E:Env}{w:World}{H:aC}(s:dL E H w){id:Nat}(sl:Slot)(hn:E.m id=none)(ob:Obj){a:af}{v:Value}(h:ck E w a v):ck (E.put id sl) (w.alloc ob) a v:=
 ck.mono (E:=E) (E':=E.put id sl) (fun _ h=>h) (fun b hb=>d7 w ob (s.nQ b hb)) (fun k s' hs=>.inl (by rw[Env.dj E sl (fun e=>by subst e;rw[hn]at hs;cases hs)];exact hs)) h
def ku(E:Env)(w:World)(l:List af)(cs:Array Value):Prop:=l.length=cs.size/\ ∀(j:Nat)(c:af),l[j]?=some c-> ∃v,cs[j]?=some v/\ck E w c v
def Flat(E:Env)(w:World)(sz:Nat)(es:List af)(cs:Array Value):Prop:=
 es.length*sz=cs.size/\(∀x∈es,x.cells.length=sz)/\ ∀(i:Nat)(x:af),es[i]?=some x-> ∀(j:Nat)(c:af),x.cells[j]?=some c-> ∃v,cs[i*sz+j]?=some v/\ck E w c v
theorem ck.rel{E:Env}{w:World}{a:af}{v:Value}(h:ck E w a v):ku E w a.cells v.cells:=h.cells
def D8(P:Program)(E:Env)(H:aC)(w:World)(x:Sem Next)(v:af)(lo hi:Nat):Prop:=
 ∃u w' E',x.run P w= .ok (.value u) w'/\dL E' H w'/\pU E H w E' H w'/\ck E' w' v u/\ ∀k,E'.m k=E.m k∨(lo<=k/\k<hi)
section
variable{P:Program}{E:Env}{w:World}{H:aC}
theorem Kl(s:dL E H w){id:Nat}(hn:E.m id=none){x:af}{cs:Array Value}(el:TypeId)(cq:H[id]?=some (.box x))(hc:ku E w x.cells cs):
  ∃E',dL E' H (w.alloc (.cells cs el))/\pU E H w E' H (w.alloc (.cells cs el))/\ck E' (w.alloc (.cells cs el)) (.ptr id 0 0) (.pointer (some ⟨w.heap.size,0,none⟩))/\ ∀k,E'.m k=E.m k∨(id<=k/\k<id+1):=by
   obtain⟨h1,h2⟩:=s.place (.cells cs el) (.live w.heap.size cs.size 0) cq hn rfl ⟨yq w cs el,by rw[hc.1];exact aB _,fun j c hj=>by
    obtain⟨v,g1,g2⟩:=hc.2 j c hj;exact⟨v,by rw[bg,uf];exact g1,g2.put s _ hn _⟩⟩
   refine⟨_,h1,h2,?_,fun k=>?_⟩
   ·have:=ck.ptr (w:=w.alloc (.cells cs el)) id 0 0 w.heap.size cs.size 0 (Env.fi E id (.live w.heap.size cs.size 0));simpa using this
   ·by_cases e:k=id
    ·exact .inr (by omega)
    ·exact .inl (Env.dj E _ e)
theorem Km(s:dL E H w){id:Nat}(hn:E.m id=none){sz len cap:Nat}{es:List af}{cs:Array Value}(el:TypeId)(cq:H[id]?=some (.arr sz es))(hc:Flat E w sz es cs)(hl:len<=cap)(fI:cap<=es.length):
  ∃E',dL E' H (w.alloc (.cells cs el))/\pU E H w E' H (w.alloc (.cells cs el))/\ck E' (w.alloc (.cells cs el)) (.own id 0 len) (.slice (some ⟨w.heap.size,0,none⟩) len cap)/\ ∀k,E'.m k=E.m k∨(id<=k/\k<id+1):=by
   obtain⟨f1,f2,f3⟩:=hc
   obtain⟨h1,h2⟩:=s.place (.cells cs el) (.live w.heap.size cs.size sz) cq hn rfl ⟨rfl,yq w cs el,by rw[f1];exact aB _,f2,fun i x hx j c hj=>by
    obtain⟨v,g1,g2⟩:=f3 i x hx j c hj;exact⟨v,by rw[uf];exact g1,g2.put s _ hn _⟩⟩
   refine⟨_,h1,h2,?_,fun k=>?_⟩
   ·refine .own id 0 len _ cap w.heap.size cs.size sz (Env.fi E id _) hl (.inr ⟨by simp,?_⟩);rw[bg,<-f1];exact Nat.mul_le_mul_right _ fI
   ·by_cases e:k=id
    ·exact .inr (by omega)
    ·exact .inl (Env.dj E _ e)
def pX(off:Nat)(cells:Array Value)(v:Value):Array Value:=v.cells.zipIdx.foldl (fun cs(c,j)=>cs.setIfInBounds (off+j) c) cells
theorem xc(off:Nat)(cells:Array Value)(v:Value)(hle:off+v.cells.size<=cells.size):
  (pX off cells v).size=cells.size/\ ∀k,(pX off cells v)[k]?=if off<=k/\k<off+v.cells.size then v.cells[k-off]? else cells[k]?:=by
   have h:=Go.Great.foldl_set off v.cells.toList 0 cells
   have e:pX off cells v=(v.cells.toList.zipIdx 0).foldl (fun cs(x:Value×Nat)=>cs.setIfInBounds (off+x.2) x.1) cells:=by
    unfold pX;rw[<-Array.foldl_toList,Array.toList_zipIdx]
   rw[e];refine⟨h.1,fun k=>?_⟩;rw[h.2 k];simp only[Nat.add_zero,Array.length_toList,Array.getElem?_toList]
   by_cases hk:off<=k/\k<off+v.cells.size
   ·rw[if_pos hk,if_pos ⟨hk.1,hk.2,by omega⟩]
   ·rw[if_neg hk,if_neg (fun h=>hk ⟨h.1,h.2.1⟩)]
theorem BJ(place:Nat->Option (Nat×Nat))(cells:Array Value)(i:Nat)(v:Value)(rest:List (Nat×Value))(off size:Nat)(hp:place i=some (off,size))(hs:v.cells.size=size)(hle:off+size<=cells.size):
  Instr.fill place cells ((i,v)::rest)=Instr.fill place (pX off cells v) rest:=by
   have h1: ¬(v.cells.size≠size∨off+v.cells.size>cells.size):=by omega
   simp only[Instr.fill,hp];rw[if_neg (by simpa using h1)];rfl
theorem y7(cs vs:List af)(off:Nat)(hle:off+vs.length<=cs.length)(k:Nat):(cs.take off++(vs++cs.drop (off+vs.length)))[k]?=if off<=k/\k<off+vs.length then vs[k-off]? else cs[k]?:=by
 have hl:(cs.take off).length=off:=by simp;omega
 by_cases h1:k<off
 ·rw[if_neg (by omega),bp (by omega),List.getElem?_take,if_pos h1]
 ·rw[List.getElem?_append_right (by omega),hl]
  by_cases h2:k<off+vs.length
  ·rw[if_pos ⟨by omega,h2⟩,bp (by omega)]
  ·rw[if_neg (by omega),List.getElem?_append_right (by omega),List.getElem?_drop]
   congr 1
   omega
theorem HW{l vs:List af}{cs:Array Value}{v:Value}{off:Nat}(hc:ku E w l cs)(hv:ku E w vs v.cells)(hle:off+vs.length<=l.length):
  ku E w (l.take off++(vs++l.drop (off+vs.length))) (pX off cs v):=by
   have TM:off+v.cells.size<=cs.size:=by rw[<-hv.1,<-hc.1];exact hle
   obtain⟨g1,g2⟩:=xc off cs v TM;refine⟨by rw[g1,<-hc.1];simp;omega,fun j c hj=>?_⟩;rw[y7 _ _ _ hle]at hj;rw[g2]
   by_cases hk:off<=j/\j<off+vs.length
   ·rw[if_pos hk]at hj;rw[if_pos (by rw[<-hv.1];exact hk)];exact hv.2 _ _ hj
   ·rw[if_neg hk]at hj;rw[if_neg (by rw[<-hv.1];exact hk)];exact hc.2 _ _ hj
inductive o8(E:Env)(w:World):List (Nat×af)->List (Nat×Value)->Prop
 |nil:o8 E w [] []
 |cons {p:Nat×af} {v:Nat×Value} {ps:List (Nat×af)} {vs:List (Nat×Value)} (h:p.1=v.1/\ck E w p.2 v.2) (hr:o8 E w ps vs):o8 E w (p::ps) (v::vs)
theorem NW{pl:Nat->Option (Nat×Nat)}: ∀(ps:List (Nat×af))(vs:List (Nat×Value))(l r:List af)(cs:Array Value),o8 E w ps vs->ku E w l cs->jU pl l ps=some r->
  ∃rs,Instr.fill pl cs vs=some rs/\ku E w r rs:=by
   intro ps
   induction ps with
   |nil=>
    intro vs l r cs hp hc hf;cases hp
    simp only[jU]at hf;cases hf
    exact⟨cs,rfl,hc⟩
   |cons p ps ih=>
    intro vs l r cs hp hc hf
    cases hp with
    |cons h1 hp=>
     rename_i v vs;obtain⟨i,a⟩:=p;obtain⟨i',u⟩:=v;obtain⟨rfl,hr⟩:=h1;simp only[jU]at hf;split at hf
     ·rename_i off sz yt;split at hf
      ·rename_i hle;have vP:=hr.rel;have hs:u.cells.size=sz:=by rw[<-vP.1];exact hle.1
       rw[BJ pl cs i u vs off sz yt hs (by rw[<-hc.1];exact hle.2)];refine ih vs _ r _ hp ?_ hf;have:=HW hc vP (off:=off) (by rw[hle.1];exact hle.2);rw[hle.1]at this;exact this
      ·cases hf
     ·cases hf
theorem BK{cf:dS}{tm:Nat->af}{ρ:Operand->Value}(ps:Array (Nat×Operand))(hr: ∀p∈ps.toList,∀v,ev cf.G tm p.2=some v->ck E w v (ρ p.2))(vs:List (Nat×af))
  (h:cp (fun p=>(ev cf.G tm p.2).map fun v=>(p.1,v)) ps.toList=some vs):o8 E w vs (ps.map fun(i,x)=>(i,ρ x)).toList:=by
   rw[Array.toList_map]
   revert vs hr
   generalize ps.toList=l
   induction l with
   |nil=>intro hr vs h;simp only[cp]at h;cases h;exact .nil
   |cons p l ih=>
    intro hr vs h;simp only[cp]at h
    cases hp:ev cf.G tm p.2 with
    |none=>simp[hp]at h
    |some a=>
     cases hl:cp (fun p=>(ev cf.G tm p.2).map fun v=>(p.1,v)) l with
     |none=>simp[hp,hl]at h
     |some r=>
      simp only[hp,hl,bh]at h;cases h
      exact .cons ⟨rfl,hr p (by simp) a hp⟩ (ih (fun q hq=>hr q (by simp[hq])) r hl)
theorem n8{t:TypeId}{z:af}(h:jo P t=some z): ∃i v,P.info? t=some i/\i.zero=some v/\ ∀(E:Env)(w:World),ku E w z.cells v.cells:=by
 unfold jo at h;simp only[Option.bind_eq_some_iff]at h;obtain⟨v,⟨i,hi,hz⟩,hv⟩:=h;exact⟨i,v,hi,hz,fun E w=>(ck.eG (ym hv):ck E w z v).rel⟩
theorem EA{α β:Type}(f:α->Option β): ∀(l:List α),(∀x∈l,(f x).isSome=true)-> ∃r,l.mapM f=some r/\ ∀i:Nat,r[i]?=(l[i]?).bind f
 | [],_=>⟨[],rfl,fun i=>by simp⟩
 |x::l,h=>by
  obtain⟨y,hy⟩:=Option.isSome_iff_exists.1 (h x (by simp));obtain⟨r,hr,hg⟩:=EA f l fun z hz=>h z (by simp[hz]);refine⟨y::r,by simp[List.mapM_cons,hy,hr],fun i=>?_⟩
  cases i with
  |zero=>simp[hy]
  |succ i=>simpa using hg i
theorem tg{pl pl':Nat->Option (Nat×Nat)}(h: ∀i,pl i=pl' i): ∀(vs:List (Nat×Value))(cs:Array Value),Instr.fill pl cs vs=Instr.fill pl' cs vs
 | [],cs=>rfl
 |(i,v)::vs,cs=>by
  simp only[Instr.fill,h i];split
  ·rfl
  ·split
   ·rfl
   ·exact tg h vs _
theorem EB{cf:dS}{tm:Nat->af}{ρ:Operand->Value}{t:TypeId}{ps:Array (Nat×Operand)}{z:af}{vs:List (Nat×af)}{r:List af}(hz:jo P t=some z)(dt:yk P t=true)
  (hr: ∀p∈ps.toList,∀v,ev cf.G tm p.2=some v->ck E w v (ρ p.2)) (hv:cp (fun p=>(ev cf.G tm p.2).map fun v=>(p.1,v)) ps.toList=some vs) (hf:jU (yL P t) z.cells vs=some r):
  j9 P E w (Instr.build t (ps.map fun(i,x)=>(i,ρ x))) (.agg r):=by
   obtain⟨i,zv,hi,sI,Kk⟩:=n8 hz;obtain⟨rs,vE,QB⟩:=NW _ _ _ _ _ (BK ps hr vs hv) (Kk E w) hf;refine⟨.agg rs,run_build w t _ rs ?_,.agg r rs QB.1 fun j c v hc hv=>?_⟩
   ·unfold Program.built;unfold yk at dt;split at dt
    ·rename_i fs hu
     obtain⟨q,hq,hg⟩:=EA (fun f:Field=>(P.info? f.type).map fun i=>(f.offset,i.size)) fs.toList (fun f hf=>by
      have:=aG.1 dt f hf;obtain⟨x,hx⟩:=Option.isSome_iff_exists.1 this;simp[hx])
     simp only[hi,hu,sI,hq];rw[<-vE];refine tg (fun k=>?_) _ _;simp only[List.getElem?_toArray,hg,yL,hu,Array.getElem?_toList];cases fs[k]?<;>rfl
    ·rename_i n e hu;obtain⟨x,hx⟩:=Option.isSome_iff_exists.1 dt;simp only[hi,hu,sI,hx];rw[<-vE];refine tg (fun k=>?_) _ _;simp[yL,hu,hx]
    ·cases dt
   ·obtain⟨u,hu,vM⟩:=QB.2 j c hc;rw[hv]at hu;cases hu
    exact vM
theorem NX{sz:Nat}{es:List af}{cs:Array Value}{i:Nat}{a:af}{v:Value}(hc:Flat E w sz es cs)(hr:ck E w a v)(hi:i<es.length)(hs:a.cells.length=sz):Flat E w sz (es.set i a) (pX (i*sz) cs v):=by
 obtain⟨f1,f2,f3⟩:=hc;have vP:=hr.rel;have sF:v.cells.size=sz:=by rw[<-vP.1];exact hs
 have hle:i*sz+v.cells.size<=cs.size:=by
  rw[sF,<-f1,<-Nat.succ_mul];exact Nat.mul_le_mul_right _ hi
 obtain⟨g1,g2⟩:=xc (i*sz) cs v hle;refine⟨by rw[g1];simpa using f1,fun x hx=>?_,fun k x hx j c hj=>?_⟩
 ·rcases List.mem_or_eq_of_mem_set hx with h|h
  ·exact f2 x h
  ·subst h;exact hs
 ·rw[g2];rw[List.getElem?_set]at hx;split at hx
  ·rename_i e;subst e;simp[hi]at hx;subst hx;have SD:j<sz:=by rw[<-hs];exact(az.1 hj).1
   rw[if_pos (by omega),Nat.add_sub_cancel_left];exact vP.2 j c hj
  ·rename_i e
   have SD:j<sz:=by
    rw[<-f2 x (aV hx)];exact(az.1 hj).1
   have QX: ¬(i*sz<=k*sz+j/\k*sz+j<i*sz+v.cells.size):=by
    rw[sF]
    rintro ⟨h1,h2⟩
    rcases Nat.lt_or_gt_of_ne e with h|h
    ·have:=Nat.mul_le_mul_right sz (show i+1<=k from h);rw[Nat.succ_mul]at this;omega
    ·have:=Nat.mul_le_mul_right sz (show k+1<=i from h);rw[Nat.succ_mul]at this;omega
   rw[if_neg QX];exact f3 k x hx j c hj
theorem LB{sz:Nat}: ∀(ps:List (Nat×af))(vs:List (Nat×Value))(es r:List af)(cs:Array Value),o8 E w ps vs->Flat E w sz es cs->jr es sz ps=some r->
  ∃rs,Instr.fill (fun i=>some (i*sz,sz)) cs vs=some rs/\Flat E w sz r rs/\r.length=es.length:=by
   intro ps
   induction ps with
   |nil=>
    intro vs es r cs hp hc hf;cases hp
    simp only[jr]at hf;cases hf
    exact⟨cs,rfl,hc,rfl⟩
   |cons p ps ih=>
    intro vs es r cs hp hc hf
    cases hp with
    |cons h1 hp=>
     rename_i v vs;obtain⟨i,a⟩:=p;obtain⟨i',u⟩:=v;obtain⟨rfl,hr⟩:=h1;simp only[jr]at hf;split at hf
     ·rename_i hle;have hs:u.cells.size=sz:=by rw[<-hr.rel.1];exact hle.2
      have QV:i*sz+sz<=cs.size:=by
       rw[<-hc.1,<-Nat.succ_mul];exact Nat.mul_le_mul_right _ hle.1
      rw[BJ (fun i=>some (i*sz,sz)) cs i u vs (i*sz) sz rfl hs QV];obtain⟨rs,g1,g2,g3⟩:=ih vs _ r _ hp (NX hc hr hle.1 hle.2) hf;exact⟨rs,g1,g2,by rw[g3];simp⟩
     ·cases hf
theorem BL{z:af}{zv:Value}(hz:ku E w z.cells zv.cells)(n:Nat):Flat E w z.cells.length (List.replicate n z) (madeCells zv.cells (n*z.cells.length)):=by
 refine⟨by simp[size_madeCells],fun x hx=>by rw[(List.mem_replicate.1 hx).2],fun i x hx j c hj=>?_⟩;rw[List.getElem?_replicate]at hx;split at hx
 ·rename_i hi;cases hx
  obtain⟨v,hv,hr⟩:=hz.2 j c hj;refine⟨v,?_,hr⟩;have bq:j<z.cells.length:=(az.1 hj).1
  have eH:i*z.cells.length+j<n*z.cells.length:=by
   have:=Nat.mul_le_mul_right z.cells.length (show i+1<=n from hi);rw[Nat.succ_mul]at this;omega
  unfold madeCells;rw[Array.getElem?_map,Array.getElem?_range,if_pos eH];simp only[bh,<-hz.1,Nat.mul_add_mod_of_lt bq];have:j<zv.cells.size:=by rw[<-hz.1];exact bq
  rw[getElem!_pos zv.cells j this];rw[Array.getElem?_eq_getElem this]at hv;exact hv
 ·cases hx
theorem mV(w:World)(t e:TypeId)(len:Nat)(parts:Array (Nat×Value))(cells:Array Value)(ie:TypeInfo)(z:Value)
  (hu:P.underlying t=some (.slice e)) (XP:P.info? e=some ie) (hz:ie.zero=some z) (NY: ¬len*ie.size>2^24)
  (h:Instr.fill (fun i=>some (i*ie.size,ie.size)) (madeCells z.cells (len*ie.size)) parts.toList=some cells):
  (Instr.buildSlice t len parts).run P w= .ok (.slice (some ⟨w.heap.size,0,none⟩) len len) (w.alloc (.cells cells e)):=by
   by_cases ug:len*ie.size=0
   ·have e0:madeCells z.cells (len*ie.size)= #[]:=by rw[ug];simp[madeCells]
    rw[e0]at h;simp only[ug]at NY;simp[Instr.buildSlice,run_underlying hu,sizeOf,typeInfo,XP,ug,h,newRow,Array.range_zero']
   ·exact run_buildSlice w t e len parts cells ie z hu XP hz NY ug h
end
end Go.Am
set_option maxHeartbeats 4000000
namespace Go.Am
open Go
def mW:Op->Bool
 | .alloc _=>true
 | .box _ _=>true
 | .build _ _=>true
 | .buildSlice _ _ _=>true
 | .makeMap _ none=>true
 | .makeSlice _ _ _=>true
 |o=>kq o
section
variable{cf:dS}{E:Env}{w:World}{tm:Nat->af}{ρ:Operand->Value}{H:aC}
theorem Vk.D8{x:Sem Next}{v:af}(s:dL E H w)(h:Vk cf.P E w x v)(lo hi:Nat):D8 cf.P E H w x v lo hi:=by
 obtain⟨u,h1,h2⟩:=h;exact⟨u,w,E,h1,s,(Ext.refl E H w).topU,h2,fun k=>.inl rfl⟩
theorem EC{h H:aC}{o:cJ}(hp:h++[o] <+: H):H[h.length]?=some o:=by
 obtain⟨t,rfl⟩:=hp;rw[List.append_assoc,List.getElem?_append_right (aB _)];simp
theorem D8.of{x:Sem Value}{v:af}{lo hi:Nat}{u:Value}{w':World}{E':Env}(hr:x.run cf.P w= .ok u w')(h1:dL E' H w')(h2:pU E H w E' H w')(h3:ck E' w' v u)(h4: ∀k,E'.m k=E.m k∨(lo<=k/\k<hi)):
  D8 cf.P E H w (do pure (.value (<-x))) v lo hi:=⟨u,w',E',by simp[hr],h1,h2,h3,h4⟩
theorem xd{h h':aC}(s:dL E H w){o:Oper}{v:af}(hm:mW o.op=true)(hr:gn cf.G E w tm ρ o.op.operands)(hv:aT cf tm h o.op=some (.val v h'))(hp:kq o.op=true->h' <+: H)(ED: ∀ob,h'=h++[ob]->H[h.length]?=some ob)
  (hn: ∀k,h.length<=k->k<h'.length->E.m k=none):h <+: h'/\D8 cf.P E H w (execOp ρ o) v h.length h'.length:=by
   by_cases CJ:kq o.op=true
   ·obtain⟨v',he⟩:=mU CJ hv;cases he
    exact⟨List.prefix_refl _,(HV (s.sub (hp CJ)) CJ hr hv).D8 s _ _⟩
   obtain⟨dst,op,ty,pos,after,guard⟩:=o;simp only at hm hr hv CJ;cases op<;>(try(exact absurd hm CJ))<;>(try(simp only[mW]at hm;cases hm;done))
   all_goals simp only[Op.operands]at hr
   all_goals simp only[aT]at hv
   case alloc t=>
    simp only[ai]at hv;obtain⟨z,hz,he⟩:=hv;cases he
    obtain⟨i,zv,hi,sI,Kk⟩:=n8 hz;obtain⟨E',h1,h2,h3,h4⟩:=Kl s (hn _ (aB _) (by simp[Ef])) t (ED _ rfl) (Kk E w);refine⟨⟨_,rfl⟩,D8.of ?_ h1 h2 h3 (by simpa[Ef]using h4)⟩;simp[Instr.alloc,zeroValue,typeInfo,hi,sI,newVar,newRow]
   case box t x=>
    simp only[ai]at hv;obtain⟨z,hz,he⟩:=hv;cases he
    obtain⟨E',h1,h2,h3,h4⟩:=Kl s (hn _ (aB _) (by simp[Ef])) t (ED _ rfl) (hr x (by simp) _ hz).rel;refine⟨⟨_,rfl⟩,D8.of ?_ h1 h2 h3 (by simpa[Ef]using h4)⟩;simp[Instr.box,newVar,newRow]
   case build t ps=>
    split at hv
    ·rename_i z vs hz sF;split at hv
     ·rename_i dt;split at hv
      ·rename_i cs rq;cases hv
       refine⟨List.prefix_refl _,(j9.next (EB hz dt (fun p TN=>hr p.2 (by simp;exact⟨p.1,by simpa using TN⟩)) sF rq)).D8 s _ _⟩
      ·cases hv
     ·cases hv
    ·cases hv
   case buildSlice t n ps=>
    split at hv
    ·rename_i et sz vs hs sF;split at hv
     ·rename_i HX;split at hv
      ·rename_i z hz;split at hv
       ·rename_i sU;split at hv
        ·rename_i es TO;cases hv
         obtain⟨i,hu,hi,A8,_,_⟩:=jW hs;obtain⟨i',zv,o7,sI,Kk⟩:=n8 hz;rw[hi]at o7;cases o7
         have EE:=BL (Kk E w) n;rw[sU]at EE;obtain⟨rs,vE,hrf,hlen⟩:=LB _ _ _ _ _ (BK ps (fun p TN=>hr p.2 (by simp;exact⟨p.1,by simpa using TN⟩)) vs sF) EE TO;have Kf:es.length=n:=by rw[hlen];simp
         cases n with
         |zero=>
          obtain⟨g1,g2⟩:=s.anon (.cells rs et);refine⟨List.prefix_refl _,D8.of (mV w t et 0 _ rs i zv hu hi sI ?_ ?_) g1 g2 (.eG (.nil _)) fun k=>.inl rfl⟩
          ·simp
          ·rw[A8];exact vE
         |succ n=>
         obtain⟨E',h1,h2,h3,h4⟩:=Km s (hn _ (aB _) (by simp[lD,nP])) (len:=n+1) (cap:=n+1) et (ED _ rfl) hrf (aB _) (by omega);refine⟨⟨_,rfl⟩,D8.of (mV w t et (n+1) _ rs i zv hu hi sI ?_ ?_) h1 h2 ?_ (by simpa[lD,nP]using h4)⟩
         ·rw[A8];have:=Nat.mul_le_mul HX.1 HX.2;omega
         ·rw[A8];exact vE
         ·simp only[lD,nP,Kf];exact h3
        ·cases hv
       ·cases hv
      ·cases hv
     ·cases hv
    ·cases hv
   case makeMap t r=>
    cases r with
    |some r=>simp[mW,kq]at hm
    |none=>
     simp only at hv;cases hv
     obtain⟨h1,h2⟩:=s.place (id:=h.length) (o:=.oX [] []) (.map #[] 0) (.HM w.heap.size) (ED _ rfl) (hn _ (aB _) (by simp)) rfl
      ⟨#[],0,heap_alloc_new w _,rfl,rfl,fun i k e hk=>by simp at hk,fun i k e hk=>by simp at hk⟩
     refine⟨⟨_,rfl⟩,D8.of ?_ h1 h2 (.map _ _ (Env.fi E _ _)) (fun k=>?_)⟩
     ·simp[Instr.makeMap]
     ·by_cases e:k=h.length
      ·right;simp;omega
      ·exact .inl (Env.dj E _ e)
   case makeSlice t l c=>
    split at hv
    ·rename_i lv cv hl hc;simp only[ai]at hv;obtain⟨q,hq,he⟩:=hv;cases he
     unfold Ei at hq;split at hq
     ·rename_i e sz kl l' kc c' hs;split at hq
      ·rename_i hb;split at hq
       ·rename_i z hz;split at hq
        ·rename_i sU;cases hq
         obtain⟨i,hu,hi,A8,Yu,_⟩:=jW hs;obtain⟨i',zv,o7,sI,Kk⟩:=n8 hz;rw[hi]at o7;cases o7
         have EE:=BL (Kk E w) c'.toNat;rw[sU]at EE;obtain⟨SE,Yv,Vl⟩:=hb;obtain⟨E',h1,h2,h3,h4⟩:=Km s (hn _ (aB _) (by simp)) (len:=l'.toNat) (cap:=c'.toNat) e (ED _ rfl) EE (by omega) (by simp);refine⟨⟨_,rfl⟩,D8.of (u:=.slice (some ⟨w.heap.size,0,none⟩) l'.toNat c'.toNat) ?_ h1 h2 h3 (by simpa using h4)⟩;rw[(hr l (by simp) _ hl).int,(hr c (by simp) _ hc).int]
         have hmul:(i.bytes:Int)*c'<=281474976710656:=by
          have e1:(c'.toNat:Int)=c':=by omega
          have e2:c'.toNat<=4294967296:=by unfold br at Vl;omega
          have e3:=Nat.mul_le_mul Yu e2;have e4:((i.bytes*c'.toNat:Nat):Int)=(i.bytes:Int)*c':=by rw[Int.natCast_mul,e1]
          rw[<-e4];omega
         rw[run_make (P:=cf.P) w t e i zv hu hi sI kl kc l' c' SE Yv hmul (by unfold br at Vl;omega),A8]
        ·cases hq
       ·cases hq
      ·cases hq
     ·cases hq
    ·cases hv
theorem pY{h h':aC}(s:dL E H w){o:Oper}{v:af}(hm:mW o.op=true)(hr:gn cf.G E w tm ρ o.op.operands)(hv:aT cf tm h o.op=some (.val v h'))(hp:h' <+: H)
  (hn: ∀k,h.length<=k->k<h'.length->E.m k=none):h <+: h'/\D8 cf.P E H w (execOp ρ o) v h.length h'.length:=
   xd s hm hr hv (fun _=>hp) (fun ob e=>EC (e▸hp)) hn
end
end Go.Am
set_option maxHeartbeats 4000000
namespace Go.Am
open Go
def Yw(P:Program)(E:Env)(h:aC)(w:World)(x:Sem Next)(v:af)(h':aC):Prop:=
 ∃u w' E',(x.run P w= .ok (.value u) w'∨(x.run P w= .ok .skip w'/\u=undef))/\dL E' h' w'/\Full E' h'/\Ext E h w E' h' w'/\ck E' w' v u
theorem mX(b:Nat): ∀(vs:List Value)(o:Nat)(w:World),(w.setCells b o vs).heap.size=w.heap.size/\(w.setCells b o vs).os=w.os/\(w.setCells b o vs).tape=w.tape/\(w.setCells b o vs).output=w.output/\ ∀i,i≠b->(w.setCells b o vs).heap[i]?=w.heap[i]?
 | [],o,w=>⟨rfl,rfl,rfl,rfl,fun _ _=>rfl⟩
 |v::vs,o,w=>by
  obtain⟨h1,h2,h3,h4,h5⟩:=mX b vs (o+1) (w.setCell ⟨b,o,none⟩ v);refine⟨by rw[World.setCells,h1];simp[World.setCell],by rw[World.setCells,h2];rfl,by rw[World.setCells,h3];rfl,by rw[World.setCells,h4];rfl,fun i hi=>?_⟩;rw[World.setCells,h5 i hi];simp[World.setCell,Array.getElem?_modify,Ne.symm hi]
section
variable{P:Program}{E:Env}{w w':World}{h:aC}
theorem dL.write(s:dL E h w){id b:Nat}{sl:Slot}{o':cJ}(hm:E.m id=some sl)(hb:sl.BC=some b)(hlen:id<h.length)
  (Kn:w'.heap.size=w.heap.size) (kx: ∀i,i≠b->w'.heap[i]?=w.heap[i]?) (TP:w'.os=w.os) (ht:w'.tape=w.tape) (ho:w'.output=w.output)
  (dt:(∀a v,ck E w a v->ck E w' a v)->dR E w' o' sl):dL E (h.set id o') w'/\Ext E h w E (h.set id o') w'/\ ∀a v,ck E w a v->ck E w' a v:=by
   have hx:Ext E h w E (h.set id o') w':=⟨⟨fun _ h=>h,fun _ h=>.inl h,fun c _ hn=>kx c fun e=>hn (by subst e;exact⟨id,sl,hm,hb⟩),fun _ _ h=>.inl h,fun _ h=>.inl h,by simp,by omega,TP,ht,ho⟩,fun _ _ h=>h⟩;have hr: ∀a v,ck E w a v->ck E w' a v:=fun a v h=>h.ext hx s;refine⟨⟨?_,s.inj,s.nS,fun c hc=>by rw[Kn];exact s.lt c hc,fun c hc=>by rw[Kn];exact s.nQ c hc⟩,hx,hr⟩;intro k o s' hk gU;rw[List.getElem?_set]at hk;split at hk
   ·rename_i e;subst e;simp[hlen]at hk;subst hk;rw[hm]at gU;cases gU
    exact dt hr
   ·rename_i e;exact(s.obj k o s' hk gU).mono hr fun c hc=>kx c fun ec=>by subst ec;exact e (s.inj id k _ _ _ hm gU hb hc)
theorem CK{u:af}(h:u.bE=true):u.cells=[u]:=by cases u<;>first|rfl|cases h
theorem y8{x x':af}{off:Nat}{vs:List af}(h:yG x off vs=some x')(hc:vs.all af.bE=true):
  off+vs.length<=x.cells.length/\x'.cells.length=x.cells.length/\ ∀k,x'.cells[k]?=if off<=k/\k<off+vs.length then vs[k-off]? else x.cells[k]?:=by
   have one:x.cells=[x]->off=0->vs=[x']->off+vs.length<=x.cells.length/\x'.cells.length=x.cells.length/\ ∀k,x'.cells[k]?=if off<=k/\k<off+vs.length then vs[k-off]? else x.cells[k]?:=by
    intro hx h0 hv;subst h0 hv;have h1:x'.cells=[x']:=CK (by simpa using hc);rw[hx,h1];refine⟨by simp,rfl,fun k=>?_⟩
    cases k with
    |zero=>simp
    |succ k=>simp
   cases x
   case agg cs=>
    simp only[yG]at h;split at h
    ·rename_i hle;cases h
     refine⟨hle,by simp[af.cells];omega,fun k=>y7 cs vs off hle k⟩
    ·cases h
   all_goals
    simp only[yG]at h;split at h
    ·cases h;exact one rfl rfl rfl
    ·cases h
theorem yc(w:World)(b o:Nat)(ty:TypeId)(v:Value)(ht:w.there b o v.cells.size)(hi:(P.info? ty).map (·.size)=some v.cells.size)(h1: ∀c∈v.cells,c.oneCell'=true):
  (Instr.storeAt ty (.pointer (some ⟨b,o,none⟩)) v).run P w= .ok () (w.setCells b o v.cells.toList):=by
   have:=run_storeCells_cells (P:=P) b o v.cells.toList 0 w (fun j hj=>by simpa using(ht j (by simpa using hj)).1) (fun j hj=>by simpa using(ht j (by simpa using hj)).2) (fun c hc=>h1 c (by simpa using hc))
   cases hq:P.info? ty with
   |none=>simp[hq]at hi
   |some i=>
    have hs:v.cells.size=i.size:=by simp[hq]at hi;omega
    simp only[Nat.add_zero]at this;simp[Instr.storeAt,Instr.sureAddr,storeVar,sizeOf,typeInfo,hq,hs,this]
theorem ck.one{a:af}{v:Value}(h:ck E w a v)(hc:a.cells.all af.bE=true): ∀c∈v.cells,c.oneCell'=true:=by
 intro c QY;obtain⟨h1,h2⟩:=h.cells;obtain⟨j,hj,rfl⟩:=Array.mem_iff_getElem.1 QY;obtain⟨x,hx⟩:=bD (l:=a.cells) (i:=j) (by omega);obtain⟨u,hu,hr⟩:=h2 j x hx;rw[Array.getElem?_eq_getElem hj]at hu;cases hu
 exact hr.bE (aG.1 hc x (aV hx))
theorem A9{b base off:Nat}{x x':af}{v:Value}{a:af}(hr:ck E w a v)(hx:iP E w b base x)(pZ:yG x off a.cells=some x')(hc:a.cells.all af.bE=true)
  (TQ: ∀j,j<a.cells.length->(w.cell? ⟨b,base+off+j,none⟩).isSome=true)
  (SG: ∀a v,ck E w a v->ck E (w.setCells b (base+off) v.cells.toList) a v->True) (sJ: ∀a u,ck E w a u->ck E (w.setCells b (base+off) v.cells.toList) a u):iP E (w.setCells b (base+off) v.cells.toList) b base x':=by
   obtain⟨h1,h2,h3⟩:=y8 pZ hc;obtain⟨c1,c2⟩:=hr.cells;intro j c hj;rw[h3]at hj;split at hj
   ·rename_i hk;obtain⟨u,hu,vM⟩:=c2 _ c hj;have eH:j-off<v.cells.toList.length:=by simp;have:=hk.2;omega
    have:=World.cell?_setCells_in b v.cells.toList (base+off) w (fun i hi=>TQ i (by simpa[c1]using hi)) (j-off) eH;refine⟨u,?_,sJ _ _ vM⟩;have e:base+off+(j-off)=base+j:=by omega
    rw[e]at this;rw[this];rw[<-hu];simp
   ·rename_i hk;obtain⟨u,hu,vM⟩:=hx j c hj;refine⟨u,?_,sJ _ _ vM⟩;rw[World.cell?_setCells_out b _ _ _ _ (fun _ _=>?_),hu];have:v.cells.toList.length=a.cells.length:=by simp[c1]
    rw[this];show base+j<base+off∨base+off+a.cells.length<=base+j;omega
theorem EF(s:dL E h w)(hf:Full E h){t:TypeId}{a v:af}{va vv:Value}{h':aC}(hh:q8 P t a v h=some h')(ha:ck E w a va)(hv:ck E w v vv):
  ∃w',(Instr.storeAt t va vv).run P w= .ok () w'/\dL E h' w'/\Full E h'/\Ext E h w E h' w':=by
   unfold q8 at hh;split at hh
   ·rename_i id i off bt sz ht;obtain⟨d,inf,hd,hi,_,je⟩:=rl ht;split at hh
    ·rename_i rm;obtain⟨hl,aD⟩:=rm;have lJ:=hv.one aD;have rq:=hv.cells;have Yx:(P.info? t).map (·.size)=some vv.cells.size:=by rw[hi];simp;omega
     cases ho:h[id]? with
     |none=>simp[ho]at hh
     |some o=>
      have eH:id<h.length:=(az.1 ho).1
      cases ha with
      |eG hc=>cases hc
      |vK _ _ _ ad hm=>
       have:=s.obj id o _ ho hm
       cases o<;>simp only[dR]at this<;>simp[ho]at hh
      |ptr _ _ _ b iC Vm hm=>
       have hk:=s.obj id o _ ho hm
       have go: ∀(base:Nat)(x x':af)(o':cJ),base+x.cells.length<=iC->Row w b iC->iP E w b base x->yG x off v.cells=some x'->i*Vm+off=base+off->
         ((∀a u,ck E w a u->ck E (w.setCells b (base+off) vv.cells.toList) a u)->iP E (w.setCells b (base+off) vv.cells.toList) b base x'->Row (w.setCells b (base+off) vv.cells.toList) b iC->x'.cells.length=x.cells.length->
           (∀k,(k<base+off∨base+off+v.cells.length<=k)->(w.setCells b (base+off) vv.cells.toList).cell? ⟨b,k,none⟩=w.cell? ⟨b,k,none⟩)->off+v.cells.length<=x.cells.length->dR E (w.setCells b (base+off) vv.cells.toList) o' (.live b iC Vm))->
         ∃w',(Instr.storeAt t (.pointer (some ⟨b,i*Vm+off,none⟩)) vv).run P w= .ok () w'/\dL E (h.set id o') w'/\Full E (h.set id o')/\Ext E h w E (h.set id o') w':=by
          intro base x x' o' hle dT Vn pZ VV fR;obtain⟨c1,c2,c3⟩:=y8 pZ aD;obtain⟨f1,f2,f3,f4,f5⟩:=mX b vv.cells.toList (base+off) w;have hth: ∀j,j<v.cells.length->(w.cell? ⟨b,base+off+j,none⟩).isSome=true:=fun j hj=>dT.isSome (by omega)
          have hw:=s.write (o':=o') hm rfl eH f1 f5 f2 f3 f4 fun sJ=>
           fR sJ (A9 hv Vn pZ aD hth (fun _ _ _ _=>trivial) sJ) (dT.setCells b _ _ _) c2
            (fun k hk=>World.cell?_setCells_out b _ _ _ _ fun _ _=>by simpa[<-rq.1]using hk) c1
          refine⟨_,?_,hw.1,fun k hk=>hf k (by simpa using hk),hw.2.1⟩;rw[VV];exact yc w b (base+off) t vv (fun j hj=>⟨hth j (by omega),dT.frozen _⟩) Yx lJ
       cases o with
       |box x=>
        simp only[dR]at hk;obtain⟨dT,hle,Vn⟩:=hk;simp only[ho]at hh;split at hh
        ·rename_i y9;subst y9;simp only[ai]at hh;obtain⟨x',uh,rfl⟩:=hh;exact go 0 x x' (.box x') (by omega) dT Vn uh (by simp) fun sJ TR NZ VW QX TM=>⟨NZ,by omega,TR⟩
        ·cases hh
       |arr iz es=>
        simp only[dR]at hk;obtain⟨rfl,dT,hle,hs,Vn⟩:=hk;simp only[ho]at hh
        cases hx:es[i]? with
        |none=>simp[hx]at hh
        |some x=>
         simp only[hx,ai]at hh;obtain⟨x',uh,rfl⟩:=hh;have mg:i<es.length:=(az.1 hx).1;have yl:=hs x (aV hx)
         have vQ:i*iz+iz<=iC:=by
          have:=Nat.mul_le_mul_right iz (show i+1<=es.length from mg);rw[Nat.succ_mul]at this;omega
         refine go (i*iz) x x' (.arr iz (es.set i x')) (by omega) dT (Vn i x hx) uh rfl fun sJ TR NZ VW QX TM=>⟨rfl,NZ,by simpa using hle,fun y hy=>?_,fun k y hy=>?_⟩
         ·rcases List.mem_or_eq_of_mem_set hy with hy|hy
          ·exact hs y hy
          ·subst hy;omega
         ·rw[List.getElem?_set]at hy;split at hy
          ·rename_i e;subst e;simp[mg]at hy;subst hy;exact TR
          ·rename_i e;intro j c hj;obtain⟨u,hu,vM⟩:=Vn k y hy j c hj;refine⟨u,?_,sJ _ _ vM⟩
           have SD:j<iz:=by
            rw[<-hs y (aV hy)];exact(az.1 hj).1
           rw[QX,hu];rcases Nat.lt_or_gt_of_ne e with h1|h1
           ·right
            have:=Nat.mul_le_mul_right iz (show i+1<=k from h1);rw[Nat.succ_mul]at this;omega
           ·left
            have:=Nat.mul_le_mul_right iz (show k+1<=i from h1);rw[Nat.succ_mul]at this
            omega
       |oX ks vs=>simp[ho]at hh
       |iter q pos=>simp[ho]at hh
       |dead=>simp[ho]at hh
    ·cases hh
   ·cases hh
end
end Go.Am

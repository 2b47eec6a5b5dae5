/- The operations that write: stores, appends, maps. -/
import Derived.Test.YtfepbikckfehlaaGreatGH3
import Derived.Great.BuildSlice
set_option linter.unusedVariables false
set_option linter.unusedSimpArgs false
set_option maxHeartbeats 4000000
namespace Go.Am
open Go
theorem eG.place{E:Env}{H:aG}{w:World}(s:eG E H w){id:Nat}{o:dH}(ob:Obj)(sl:Slot)(dm:H[id]?=some o)(hn:E.m id=none)(Gt:sl.Da=some w.heap.size)
  (eb:eO (E.put id sl) (w.alloc ob) o sl):eG (E.put id sl) H (w.alloc ob)/\ri E H w (E.put id sl) H (w.alloc ob):=by
   have mD: ∀k s',E.m k=some s'->k≠id:=fun k s' hs e=>by subst e;rw[hn]at hs;cases hs
   have hx:ri E H w (E.put id sl) H (w.alloc ob):=by
    refine⟨fun _ h=>h,fun _ h=>.inl h,fun b hb _=>eX w ob hb,fun k s' hs=>.inl ?_,fun b hb=>?_,aah _,by simp,rfl,rfl,rfl⟩
    ·rw[Env.dW E sl (mD k s' hs)];exact hs
    ·obtain⟨k,s',h1,h2⟩:=hb
     by_cases e:k=id
     ·subst e;rw[Env.gn]at h1;cases h1;rw[Gt]at h2;cases h2;exact .inr (aah _)
     ·rw[Env.dW E sl e]at h1;exact .inl ⟨k,s',h1,h2⟩
   refine⟨⟨?_,?_,?_,?_,?_⟩,hx⟩
   ·intro k o' s' ho hs
    by_cases e:k=id
    ·subst e;rw[Env.gn]at hs;cases hs
     rw[dm]at ho;cases ho
     exact eb
    ·rw[Env.dW E sl e]at hs;exact(s.obj k o' s' ho hs).mono (fun a v hr=>hr.SD hx s) fun b hb=>eX w ob (s.lt b ⟨k,s',hs,hb⟩)
   ·intro i j si sj b hi hj sF xm
    by_cases ei:i=id<;>by_cases ej:j=id
    ·omega
    ·subst ei;rw[Env.gn]at hi;cases hi
     rw[Env.dW E sl ej]at hj;rw[Gt]at sF;cases sF
     exact absurd (s.lt _ ⟨j,sj,hj,xm⟩) (Nat.lt_irrefl _)
    ·subst ej;rw[Env.gn]at hj;cases hj
     rw[Env.dW E sl ei]at hi;rw[Gt]at xm;cases xm
     exact absurd (s.lt _ ⟨i,si,hi,sF⟩) (Nat.lt_irrefl _)
    ·rw[Env.dW E sl ei]at hi;rw[Env.dW E sl ej]at hj;exact s.inj i j si sj b hi hj sF xm
   ·intro b hb hS;obtain⟨k,s',h1,h2⟩:=hb
    by_cases e:k=id
    ·subst e;rw[Env.gn]at h1;cases h1;rw[Gt]at h2;cases h2;exact absurd (s.pM _ hS) (Nat.lt_irrefl _)
    ·rw[Env.dW E sl e]at h1;exact s.nS b ⟨k,s',h1,h2⟩ hS
   ·intro b hb;obtain⟨k,s',h1,h2⟩:=hb
    by_cases e:k=id
    ·subst e;rw[Env.gn]at h1;cases h1;rw[Gt]at h2;cases h2;simp
    ·rw[Env.dW E sl e]at h1;have:=s.lt b ⟨k,s',h1,h2⟩;simp;omega
   ·intro b hb;have:=s.pM b hb;simp;omega
theorem eG.anon{E:Env}{H:aG}{w:World}(s:eG E H w)(ob:Obj):eG E H (w.alloc ob)/\ri E H w E H (w.alloc ob):=by
 have hx:ri E H w E H (w.alloc ob):=⟨fun _ h=>h,fun _ h=>.inl h,fun b hb _=>eX w ob hb,fun _ _ h=>.inl h,fun _ h=>.inl h,aah _,by simp,rfl,rfl,rfl⟩;exact⟨⟨fun id o sl ho hm=>(s.obj id o sl ho hm).mono (fun a v hr=>hr.SD hx s) fun b hb=>eX w ob (s.lt b ⟨id,sl,hm,hb⟩),s.inj,s.nS,fun b hb=>by have:=s.lt b hb;simp;omega,fun b hb=>by have:=s.pM b hb;simp;omega⟩,hx⟩
theorem eG.sub{E:Env}{h H:aG}{w:World}(s:eG E H w)(hp:h <+: H):eG E h w:=
 ⟨fun id o sl ho hm=>s.obj id o sl (by obtain⟨t,rfl⟩:=hp;rw[aaN (aag.1 ho).1];exact ho) hm,s.inj,s.nS,s.lt,s.pM⟩
theorem eG.more{E:Env}{h H:aG}{w:World}(s:eG E h w)(hp:h <+: H)(hf: ∀k,h.length<=k->E.m k=none):eG E H w:=by
 refine⟨fun id o sl ho hm=>s.obj id o sl ?_ hm,s.inj,s.nS,s.lt,s.pM⟩;have fK:id<h.length:=Nat.lt_of_not_le fun hc=>by rw[hf id hc]at hm;cases hm
 obtain⟨t,rfl⟩:=hp;rw[aaN fK]at ho;exact ho
theorem vQ(w:World)(cs:Array Value)(el:TypeId)(j:Nat):(w.alloc (.cells cs el)).cell? ⟨w.heap.size,j,none⟩=cs[j]?:=by
 simp only[World.cell?,heap_alloc_new];rfl
theorem zR(w:World)(cs:Array Value)(el:TypeId):Row (w.alloc (.cells cs el)) w.heap.size cs.size:=⟨cs,el,heap_alloc_new w _,rfl⟩
theorem de.put{E:Env}{w:World}{H:aG}(s:eG E H w){id:Nat}(sl:Slot)(hn:E.m id=none)(ob:Obj){a:af}{v:Value}(h:de E w a v):de (E.put id sl) (w.alloc ob) a v:=
 de.mono (E:=E) (E':=E.put id sl) (fun _ h=>h) (fun b hb=>eX w ob (s.pM b hb)) (fun k s' hs=>.inl (by rw[Env.dW E sl (fun e=>by subst e;rw[hn]at hs;cases hs)];exact hs)) h
def lS(E:Env)(w:World)(l:List af)(cs:Array Value):Prop:=l.length=cs.size/\ ∀(j:Nat)(c:af),l[j]?=some c-> ∃v,cs[j]?=some v/\de E w c v
def Flat(E:Env)(w:World)(sz:Nat)(es:List af)(cs:Array Value):Prop:=
 es.length*sz=cs.size/\(∀x∈es,x.cells.length=sz)/\ ∀(i:Nat)(x:af),es[i]?=some x-> ∀(j:Nat)(c:af),x.cells[j]?=some c-> ∃v,cs[i*sz+j]?=some v/\de E w c v
theorem de.rel{E:Env}{w:World}{a:af}{v:Value}(h:de E w a v):lS E w a.cells v.cells:=h.cells
def Gc(P:Program)(E:Env)(H:aG)(w:World)(x:Sem Next)(v:af)(lo hi:Nat):Prop:=
 ∃u w' E',x.run P w= .ok (.value u) w'/\eG E' H w'/\ri E H w E' H w'/\de E' w' v u/\ ∀k,E'.m k=E.m k∨(lo<=k/\k<hi)
section
variable{P:Program}{E:Env}{w:World}{H:aG}
theorem Me(s:eG E H w){id:Nat}(hn:E.m id=none){x:af}{cs:Array Value}(el:TypeId)(dm:H[id]?=some (.box x))(hc:lS E w x.cells cs):
  ∃E',eG E' H (w.alloc (.cells cs el))/\ri E H w E' H (w.alloc (.cells cs el))/\de E' (w.alloc (.cells cs el)) (.ptr id 0 0) (.pointer (some ⟨w.heap.size,0,none⟩))/\ ∀k,E'.m k=E.m k∨(id<=k/\k<id+1):=by
   obtain⟨h1,h2⟩:=s.place (.cells cs el) (.live w.heap.size cs.size 0) dm hn rfl ⟨zR w cs el,by rw[hc.1];exact aah _,fun j c hj=>by
    obtain⟨v,g1,g2⟩:=hc.2 j c hj;exact⟨v,by rw[aaK,vQ];exact g1,g2.put s _ hn _⟩⟩
   refine⟨_,h1,h2,?_,fun k=>?_⟩
   ·have:=de.ptr (w:=w.alloc (.cells cs el)) id 0 0 w.heap.size cs.size 0 (Env.gn E id (.live w.heap.size cs.size 0));simpa using this
   ·by_cases e:k=id
    ·exact .inr (by omega)
    ·exact .inl (Env.dW E _ e)
theorem Mf(s:eG E H w){id:Nat}(hn:E.m id=none){sz len cap:Nat}{es:List af}{cs:Array Value}(el:TypeId)(dm:H[id]?=some (.arr sz es))(hc:Flat E w sz es cs)(hl:len<=cap)(gM:cap<=es.length):
  ∃E',eG E' H (w.alloc (.cells cs el))/\ri E H w E' H (w.alloc (.cells cs el))/\de E' (w.alloc (.cells cs el)) (.own id 0 len) (.slice (some ⟨w.heap.size,0,none⟩) len cap)/\ ∀k,E'.m k=E.m k∨(id<=k/\k<id+1):=by
   obtain⟨f1,f2,f3⟩:=hc
   obtain⟨h1,h2⟩:=s.place (.cells cs el) (.live w.heap.size cs.size sz) dm hn rfl ⟨rfl,zR w cs el,by rw[f1];exact aah _,f2,fun i x hx j c hj=>by
    obtain⟨v,g1,g2⟩:=f3 i x hx j c hj;exact⟨v,by rw[vQ];exact g1,g2.put s _ hn _⟩⟩
   refine⟨_,h1,h2,?_,fun k=>?_⟩
   ·refine .own id 0 len _ cap w.heap.size cs.size sz (Env.gn E id _) hl (.inr ⟨by simp,?_⟩);rw[aaK,<-f1];exact aa1 _ gM
   ·by_cases e:k=id
    ·exact .inr (by omega)
    ·exact .inl (Env.dW E _ e)
def rm(off:Nat)(cells:Array Value)(v:Value):Array Value:=v.cells.zipIdx.foldl (fun cs(c,j)=>cs.setIfInBounds (off+j) c) cells
theorem yG(off:Nat)(cells:Array Value)(v:Value)(hle:off+v.cells.size<=cells.size):
  (rm off cells v).size=cells.size/\ ∀k,(rm off cells v)[k]?=if off<=k/\k<off+v.cells.size then v.cells[k-off]? else cells[k]?:=by
   have h:=Go.Great.foldl_set off v.cells.toList 0 cells
   have e:rm off cells v=(v.cells.toList.zipIdx 0).foldl (fun cs(x:Value×Nat)=>cs.setIfInBounds (off+x.2) x.1) cells:=by
    unfold rm;rw[<-Array.foldl_toList,Array.toList_zipIdx]
   rw[e];refine⟨h.1,fun k=>?_⟩;rw[h.2 k];simp only[Nat.add_zero,Array.length_toList,Array.getElem?_toList]
   by_cases hk:off<=k/\k<off+v.cells.size
   ·rw[if_pos hk,if_pos ⟨hk.1,hk.2,by omega⟩]
   ·rw[if_neg hk,if_neg (fun h=>hk ⟨h.1,h.2.1⟩)]
theorem Dh(place:Nat->Option (Nat×Nat))(cells:Array Value)(i:Nat)(v:Value)(rest:List (Nat×Value))(off size:Nat)(hp:place i=some (off,size))(hs:v.cells.size=size)(hle:off+size<=cells.size):
  Instr.fill place cells ((i,v)::rest)=Instr.fill place (rm off cells v) rest:=by
   have h1: ¬(v.cells.size≠size∨off+v.cells.size>cells.size):=by omega
   simp only[Instr.fill,hp];rw[if_neg (by simpa using h1)];rfl
theorem Az(cs vs:List af)(off:Nat)(hle:off+vs.length<=cs.length)(k:Nat):(cs.take off++(vs++cs.drop (off+vs.length)))[k]?=if off<=k/\k<off+vs.length then vs[k-off]? else cs[k]?:=by
 have hl:(cs.take off).length=off:=by simp;omega
 by_cases h1:k<off
 ·rw[if_neg (by omega),aaN (by omega),aby,if_pos h1]
 ·rw[aaQ (by omega),hl]
  by_cases h2:k<off+vs.length
  ·rw[if_pos ⟨by omega,h2⟩,aaN (by omega)]
  ·rw[if_neg (by omega),aaQ (by omega),List.getElem?_drop]
   congr 1
   omega
theorem JQ{l vs:List af}{cs:Array Value}{v:Value}{off:Nat}(hc:lS E w l cs)(hv:lS E w vs v.cells)(hle:off+vs.length<=l.length):
  lS E w (l.take off++(vs++l.drop (off+vs.length))) (rm off cs v):=by
   have Vx:off+v.cells.size<=cs.size:=by rw[<-hv.1,<-hc.1];exact hle
   obtain⟨g1,g2⟩:=yG off cs v Vx;refine⟨by rw[g1,<-hc.1];simp;omega,fun j c hj=>?_⟩;rw[Az _ _ _ hle]at hj;rw[g2]
   by_cases hk:off<=j/\j<off+vs.length
   ·rw[if_pos hk]at hj;rw[if_pos (by rw[<-hv.1];exact hk)];exact hv.2 _ _ hj
   ·rw[if_neg hk]at hj;rw[if_neg (by rw[<-hv.1];exact hk)];exact hc.2 _ _ hj
inductive qA(E:Env)(w:World):List (Nat×af)->List (Nat×Value)->Prop
 |nil:qA E w [] []
 |cons {p:Nat×af} {v:Nat×Value} {ps:List (Nat×af)} {vs:List (Nat×Value)} (h:p.1=v.1/\de E w p.2 v.2) (hr:qA E w ps vs):qA E w (p::ps) (v::vs)
theorem PK{pl:Nat->Option (Nat×Nat)}: ∀(ps:List (Nat×af))(vs:List (Nat×Value))(l r:List af)(cs:Array Value),qA E w ps vs->lS E w l cs->lr pl l ps=some r->
  ∃rs,Instr.fill pl cs vs=some rs/\lS E w r rs:=by
   intro ps
   induction ps with
   |nil=>
    intro vs l r cs hp hc hf;cases hp
    simp only[lr]at hf;cases hf
    exact⟨cs,rfl,hc⟩
   |cons p ps ih=>
    intro vs l r cs hp hc hf
    cases hp with
    |cons h1 hp=>
     rename_i v vs;obtain⟨i,a⟩:=p;obtain⟨i',u⟩:=v;obtain⟨rfl,hr⟩:=h1;simp only[lr]at hf;split at hf
     ·rename_i off sz vD;split at hf
      ·rename_i hle;have xC:=hr.rel;have hs:u.cells.size=sz:=by rw[<-xC.1];exact hle.1
       rw[Dh pl cs i u vs off sz vD hs (by rw[<-hc.1];exact hle.2)];refine ih vs _ r _ hp ?_ hf;have:=JQ hc xC (off:=off) (by rw[hle.1];exact hle.2);rw[hle.1]at this;exact this
      ·cases hf
     ·cases hf
theorem Di{cf:eP}{tm:Nat->af}{ρ:Operand->Value}(ps:Array (Nat×Operand))(hr: ∀p∈ps.toList,∀v,ev cf.G tm p.2=some v->de E w v (ρ p.2))(vs:List (Nat×af))
  (h:di (fun p=>(ev cf.G tm p.2).map fun v=>(p.1,v)) ps.toList=some vs):qA E w vs (ps.map fun(i,x)=>(i,ρ x)).toList:=by
   rw[Array.toList_map]
   revert vs hr
   generalize ps.toList=l
   induction l with
   |nil=>intro hr vs h;simp only[di]at h;cases h;exact .nil
   |cons p l ih=>
    intro hr vs h;simp only[di]at h
    cases hp:ev cf.G tm p.2 with
    |none=>simp[hp]at h
    |some a=>
     cases hl:di (fun p=>(ev cf.G tm p.2).map fun v=>(p.1,v)) l with
     |none=>simp[hp,hl]at h
     |some r=>
      simp only[hp,hl,aaL]at h;cases h
      exact .cons ⟨rfl,hr p (by simp) a hp⟩ (ih (fun q hq=>hr q (by simp[hq])) r hl)
theorem pW{t:TypeId}{z:af}(h:kK P t=some z): ∃i v,P.info? t=some i/\i.zero=some v/\ ∀(E:Env)(w:World),lS E w z.cells v.cells:=by
 unfold kK at h;simp only[abC]at h;obtain⟨v,⟨i,hi,hz⟩,hv⟩:=h;exact⟨i,v,hi,hz,fun E w=>(de.fJ (zO hv):de E w z v).rel⟩
theorem GH{α β:Type}(f:α->Option β): ∀(l:List α),(∀x∈l,(f x).isSome=true)-> ∃r,l.mapM f=some r/\ ∀i:Nat,r[i]?=(l[i]?).bind f
 | [],_=>⟨[],rfl,fun i=>by simp⟩
 |x::l,h=>by
  obtain⟨y,hy⟩:=Option.isSome_iff_exists.1 (h x (by simp));obtain⟨r,hr,hg⟩:=GH f l fun z hz=>h z (by simp[hz]);refine⟨y::r,by simp[List.mapM_cons,hy,hr],fun i=>?_⟩
  cases i with
  |zero=>simp[hy]
  |succ i=>simpa using hg i
theorem uK{pl pl':Nat->Option (Nat×Nat)}(h: ∀i,pl i=pl' i): ∀(vs:List (Nat×Value))(cs:Array Value),Instr.fill pl cs vs=Instr.fill pl' cs vs
 | [],cs=>rfl
 |(i,v)::vs,cs=>by
  simp only[Instr.fill,h i];split
  ·rfl
  ·split
   ·rfl
   ·exact uK h vs _
theorem GI{cf:eP}{tm:Nat->af}{ρ:Operand->Value}{t:TypeId}{ps:Array (Nat×Operand)}{z:af}{vs:List (Nat×af)}{r:List af}(hz:kK P t=some z)(eb:zM P t=true)
  (hr: ∀p∈ps.toList,∀v,ev cf.G tm p.2=some v->de E w v (ρ p.2)) (hv:di (fun p=>(ev cf.G tm p.2).map fun v=>(p.1,v)) ps.toList=some vs) (hf:lr (Ah P t) z.cells vs=some r):
  lL P E w (Instr.build t (ps.map fun(i,x)=>(i,ρ x))) (.agg r):=by
   obtain⟨i,zv,hi,uj,Md⟩:=pW hz;obtain⟨rs,xn,So⟩:=PK _ _ _ _ _ (Di ps hr vs hv) (Md E w) hf;refine⟨.agg rs,run_build w t _ rs ?_,.agg r rs So.1 fun j c v hc hv=>?_⟩
   ·unfold Program.built;unfold zM at eb;split at eb
    ·rename_i fs hu
     obtain⟨q,hq,hg⟩:=GH (fun f:Field=>(P.info? f.type).map fun i=>(f.offset,i.size)) fs.toList (fun f hf=>by
      have:=aaj.1 eb f hf;obtain⟨x,hx⟩:=Option.isSome_iff_exists.1 this;simp[hx])
     simp only[hi,hu,uj,hq];rw[<-xn];refine uK (fun k=>?_) _ _;simp only[List.getElem?_toArray,hg,Ah,hu,Array.getElem?_toList];cases fs[k]?<;>rfl
    ·rename_i n e hu;obtain⟨x,hx⟩:=Option.isSome_iff_exists.1 eb;simp only[hi,hu,uj,hx];rw[<-xn];refine uK (fun k=>?_) _ _;simp[Ah,hu,hx]
    ·cases eb
   ·obtain⟨u,hu,xA⟩:=So.2 j c hc;rw[hv]at hu;cases hu
    exact xA
theorem PL{sz:Nat}{es:List af}{cs:Array Value}{i:Nat}{a:af}{v:Value}(hc:Flat E w sz es cs)(hr:de E w a v)(hi:i<es.length)(hs:a.cells.length=sz):Flat E w sz (es.set i a) (rm (i*sz) cs v):=by
 obtain⟨f1,f2,f3⟩:=hc;have xC:=hr.rel;have uh:v.cells.size=sz:=by rw[<-xC.1];exact hs
 have hle:i*sz+v.cells.size<=cs.size:=by
  rw[uh,<-f1,<-Nat.succ_mul];exact aa1 _ hi
 obtain⟨g1,g2⟩:=yG (i*sz) cs v hle;refine⟨by rw[g1];simpa using f1,fun x hx=>?_,fun k x hx j c hj=>?_⟩
 ·rcases List.mem_or_eq_of_mem_set hx with h|h
  ·exact f2 x h
  ·subst h;exact hs
 ·rw[g2];rw[List.getElem?_set]at hx;split at hx
  ·rename_i e;subst e;simp[hi]at hx;subst hx;have Uw:j<sz:=by rw[<-hs];exact(aag.1 hj).1
   rw[if_pos (by omega),Nat.add_sub_cancel_left];exact xC.2 j c hj
  ·rename_i e
   have Uw:j<sz:=by
    rw[<-f2 x (aaq hx)];exact(aag.1 hj).1
   have SP: ¬(i*sz<=k*sz+j/\k*sz+j<i*sz+v.cells.size):=by
    rw[uh]
    rintro ⟨h1,h2⟩
    rcases Nat.lt_or_gt_of_ne e with h|h
    ·have:=aa1 sz (show i+1<=k from h);rw[Nat.succ_mul]at this;omega
    ·have:=aa1 sz (show k+1<=i from h);rw[Nat.succ_mul]at this;omega
   rw[if_neg SP];exact f3 k x hx j c hj
theorem Nq{sz:Nat}: ∀(ps:List (Nat×af))(vs:List (Nat×Value))(es r:List af)(cs:Array Value),qA E w ps vs->Flat E w sz es cs->kL es sz ps=some r->
  ∃rs,Instr.fill (fun i=>some (i*sz,sz)) cs vs=some rs/\Flat E w sz r rs/\r.length=es.length:=by
   intro ps
   induction ps with
   |nil=>
    intro vs es r cs hp hc hf;cases hp
    simp only[kL]at hf;cases hf
    exact⟨cs,rfl,hc,rfl⟩
   |cons p ps ih=>
    intro vs es r cs hp hc hf
    cases hp with
    |cons h1 hp=>
     rename_i v vs;obtain⟨i,a⟩:=p;obtain⟨i',u⟩:=v;obtain⟨rfl,hr⟩:=h1;simp only[kL]at hf;split at hf
     ·rename_i hle;have hs:u.cells.size=sz:=by rw[<-hr.rel.1];exact hle.2
      have SL:i*sz+sz<=cs.size:=by
       rw[<-hc.1,<-Nat.succ_mul];exact aa1 _ hle.1
      rw[Dh (fun i=>some (i*sz,sz)) cs i u vs (i*sz) sz rfl hs SL];obtain⟨rs,g1,g2,g3⟩:=ih vs _ r _ hp (PL hc hr hle.1 hle.2) hf;exact⟨rs,g1,g2,by rw[g3];simp⟩
     ·cases hf
theorem Dj{z:af}{zv:Value}(hz:lS E w z.cells zv.cells)(n:Nat):Flat E w z.cells.length (List.replicate n z) (madeCells zv.cells (n*z.cells.length)):=by
 refine⟨by simp[size_madeCells],fun x hx=>by rw[(List.mem_replicate.1 hx).2],fun i x hx j c hj=>?_⟩;rw[List.getElem?_replicate]at hx;split at hx
 ·rename_i hi;cases hx
  obtain⟨v,hv,hr⟩:=hz.2 j c hj;refine⟨v,?_,hr⟩;have bp:j<z.cells.length:=(aag.1 hj).1
  have fK:i*z.cells.length+j<n*z.cells.length:=by
   have:=aa1 z.cells.length (show i+1<=n from hi);rw[Nat.succ_mul]at this;omega
  unfold madeCells;rw[Array.getElem?_map,Array.getElem?_range,if_pos fK];simp only[aaL,<-hz.1,Nat.mul_add_mod_of_lt bp];have:j<zv.cells.size:=by rw[<-hz.1];exact bp
  rw[getElem!_pos zv.cells j this];rw[abb this]at hv;exact hv
 ·cases hx
theorem oA(w:World)(t e:TypeId)(len:Nat)(parts:Array (Nat×Value))(cells:Array Value)(ie:TypeInfo)(z:Value)
  (hu:P.underlying t=some (.slice e)) (ZD:P.info? e=some ie) (hz:ie.zero=some z) (PM: ¬len*ie.size>2^24)
  (h:Instr.fill (fun i=>some (i*ie.size,ie.size)) (madeCells z.cells (len*ie.size)) parts.toList=some cells):
  (Instr.buildSlice t len parts).run P w= .ok (.slice (some ⟨w.heap.size,0,none⟩) len len) (w.alloc (.cells cells e)):=by
   by_cases vR:len*ie.size=0
   ·have e0:madeCells z.cells (len*ie.size)= #[]:=by rw[vR];simp[madeCells]
    rw[e0]at h;simp only[vR]at PM;simp[Instr.buildSlice,run_underlying hu,sizeOf,typeInfo,ZD,vR,h,newRow,Array.range_zero']
   ·exact run_buildSlice w t e len parts cells ie z hu ZD hz PM vR h
end
end Go.Am
set_option maxHeartbeats 4000000
namespace Go.Am
open Go
def oB:Op->Bool
 | .alloc _=>true
 | .box _ _=>true
 | .build _ _=>true
 | .buildSlice _ _ _=>true
 | .makeMap _ none=>true
 | .makeSlice _ _ _=>true
 |o=>lR o
section
variable{cf:eP}{E:Env}{w:World}{tm:Nat->af}{ρ:Operand->Value}{H:aG}
theorem Xh.Gc{x:Sem Next}{v:af}(s:eG E H w)(h:Xh cf.P E w x v)(lo hi:Nat):Gc cf.P E H w x v lo hi:=by
 obtain⟨u,h1,h2⟩:=h;exact⟨u,w,E,h1,s,(Ext.refl E H w).tori,h2,fun k=>.inl rfl⟩
theorem GJ{h H:aG}{o:dH}(hp:h++[o] <+: H):H[h.length]?=some o:=by
 obtain⟨t,rfl⟩:=hp;rw[abr,aaQ (aah _)];simp
theorem Gc.of{x:Sem Value}{v:af}{lo hi:Nat}{u:Value}{w':World}{E':Env}(hr:x.run cf.P w= .ok u w')(h1:eG E' H w')(h2:ri E H w E' H w')(h3:de E' w' v u)(h4: ∀k,E'.m k=E.m k∨(lo<=k/\k<hi)):
  Gc cf.P E H w (do pure (.value (<-x))) v lo hi:=⟨u,w',E',by simp[hr],h1,h2,h3,h4⟩
theorem yH{h h':aG}(s:eG E H w){o:Oper}{v:af}(hm:oB o.op=true)(hr:iA cf.G E w tm ρ o.op.operands)(hv:aV cf tm h o.op=some (.val v h'))(hp:lR o.op=true->h' <+: H)(GK: ∀ob,h'=h++[ob]->H[h.length]?=some ob)
  (hn: ∀k,h.length<=k->k<h'.length->E.m k=none):h <+: h'/\Gc cf.P E H w (execOp ρ o) v h.length h'.length:=by
   by_cases Em:lR o.op=true
   ·obtain⟨v',he⟩:=oy Em hv;cases he
    exact⟨aa2 _,(JP (s.sub (hp Em)) Em hr hv).Gc s _ _⟩
   obtain⟨dst,op,ty,pos,after,guard⟩:=o;simp only at hm hr hv Em;cases op<;>(try(exact absurd hm Em))<;>(try(simp only[oB]at hm;cases hm;done))
   all_goals simp only[Op.operands]at hr
   all_goals simp only[aV]at hv
   case alloc t=>
    simp only[nM]at hv;obtain⟨z,hz,he⟩:=hv;cases he
    obtain⟨i,zv,hi,uj,Md⟩:=pW hz;obtain⟨E',h1,h2,h3,h4⟩:=Me s (hn _ (aah _) (by simp[Gk])) t (GK _ rfl) (Md E w);refine⟨⟨_,rfl⟩,Gc.of ?_ h1 h2 h3 (by simpa[Gk]using h4)⟩;simp[Instr.alloc,zeroValue,typeInfo,hi,uj,newVar,newRow]
   case box t x=>
    simp only[nM]at hv;obtain⟨z,hz,he⟩:=hv;cases he
    obtain⟨E',h1,h2,h3,h4⟩:=Me s (hn _ (aah _) (by simp[Gk])) t (GK _ rfl) (hr x (by simp) _ hz).rel;refine⟨⟨_,rfl⟩,Gc.of ?_ h1 h2 h3 (by simpa[Gk]using h4)⟩;simp[Instr.box,newVar,newRow]
   case build t ps=>
    split at hv
    ·rename_i z vs hz uh;split at hv
     ·rename_i eb;split at hv
      ·rename_i cs sL;cases hv
       refine⟨aa2 _,(lL.next (GI hz eb (fun p Vy=>hr p.2 (by simp;exact⟨p.1,by simpa using Vy⟩)) uh sL)).Gc s _ _⟩
      ·cases hv
     ·cases hv
    ·cases hv
   case buildSlice t n ps=>
    split at hv
    ·rename_i et sz vs hs uh;split at hv
     ·rename_i JR;split at hv
      ·rename_i z hz;split at hv
       ·rename_i xD;split at hv
        ·rename_i es Vz;cases hv
         obtain⟨i,hu,hi,Cx,_,_⟩:=lz hs;obtain⟨i',zv,qz,uj,Md⟩:=pW hz;rw[hi]at qz;cases qz
         have GL:=Dj (Md E w) n;rw[xD]at GL;obtain⟨rs,xn,hrf,hlen⟩:=Nq _ _ _ _ _ (Di ps (fun p Vy=>hr p.2 (by simp;exact⟨p.1,by simpa using Vy⟩)) vs uh) GL Vz;have L8:es.length=n:=by rw[hlen];simp
         cases n with
         |zero=>
          obtain⟨g1,g2⟩:=s.anon (.cells rs et);refine⟨aa2 _,Gc.of (oA w t et 0 _ rs i zv hu hi uj ?_ ?_) g1 g2 (.fJ (.nil _)) fun k=>.inl rfl⟩
          ·simp
          ·rw[Cx];exact xn
         |succ n=>
         obtain⟨E',h1,h2,h3,h4⟩:=Mf s (hn _ (aah _) (by simp[mW,pL])) (len:=n+1) (cap:=n+1) et (GK _ rfl) hrf (aah _) (by omega);refine⟨⟨_,rfl⟩,Gc.of (oA w t et (n+1) _ rs i zv hu hi uj ?_ ?_) h1 h2 ?_ (by simpa[mW,pL]using h4)⟩
         ·rw[Cx];have:=Nat.mul_le_mul JR.1 JR.2;omega
         ·rw[Cx];exact xn
         ·simp only[mW,pL,L8];exact h3
        ·cases hv
       ·cases hv
      ·cases hv
     ·cases hv
    ·cases hv
   case makeMap t r=>
    cases r with
    |some r=>simp[oB,lR]at hm
    |none=>
     simp only at hv;cases hv
     obtain⟨h1,h2⟩:=s.place (id:=h.length) (o:=.qv [] []) (.map #[] 0) (.JH w.heap.size) (GK _ rfl) (hn _ (aah _) (by simp)) rfl
      ⟨#[],0,heap_alloc_new w _,rfl,rfl,fun i k e hk=>by simp at hk,fun i k e hk=>by simp at hk⟩
     refine⟨⟨_,rfl⟩,Gc.of ?_ h1 h2 (.map _ _ (Env.gn E _ _)) (fun k=>?_)⟩
     ·simp[Instr.makeMap]
     ·by_cases e:k=h.length
      ·right;simp;omega
      ·exact .inl (Env.dW E _ e)
   case makeSlice t l c=>
    split at hv
    ·rename_i lv cv hl hc;simp only[nM]at hv;obtain⟨q,hq,he⟩:=hv;cases he
     unfold Gn at hq;split at hq
     ·rename_i e sz kl l' kc c' hs;split at hq
      ·rename_i hb;split at hq
       ·rename_i z hz;split at hq
        ·rename_i xD;cases hq
         obtain⟨i,hu,hi,Cx,hby,_⟩:=lz hs;obtain⟨i',zv,qz,uj,Md⟩:=pW hz;rw[hi]at qz;cases qz
         have GL:=Dj (Md E w) c'.toNat;rw[xD]at GL;obtain⟨Ux,hb1,Uy⟩:=hb;obtain⟨E',h1,h2,h3,h4⟩:=Mf s (hn _ (aah _) (by simp)) (len:=l'.toNat) (cap:=c'.toNat) e (GK _ rfl) GL (by omega) (by simp);refine⟨⟨_,rfl⟩,Gc.of (u:=.slice (some ⟨w.heap.size,0,none⟩) l'.toNat c'.toNat) ?_ h1 h2 h3 (by simpa using h4)⟩;rw[(hr l (by simp) _ hl).int,(hr c (by simp) _ hc).int]
         have hmul:(i.bytes:Int)*c'<=281474976710656:=by
          have e1:(c'.toNat:Int)=c':=by omega
          have e2:c'.toNat<=4294967296:=by unfold bB at Uy;omega
          have e3:=Nat.mul_le_mul hby e2;have e4:((i.bytes*c'.toNat:Nat):Int)=(i.bytes:Int)*c':=by rw[Int.natCast_mul,e1]
          rw[<-e4];omega
         rw[run_make (P:=cf.P) w t e i zv hu hi uj kl kc l' c' Ux hb1 hmul (by unfold bB at Uy;omega),Cx]
        ·cases hq
       ·cases hq
      ·cases hq
     ·cases hq
    ·cases hv
theorem rp{h h':aG}(s:eG E H w){o:Oper}{v:af}(hm:oB o.op=true)(hr:iA cf.G E w tm ρ o.op.operands)(hv:aV cf tm h o.op=some (.val v h'))(hp:h' <+: H)
  (hn: ∀k,h.length<=k->k<h'.length->E.m k=none):h <+: h'/\Gc cf.P E H w (execOp ρ o) v h.length h'.length:=
   yH s hm hr hv (fun _=>hp) (fun ob e=>GJ (e▸hp)) hn
end
end Go.Am
set_option maxHeartbeats 4000000
namespace Go.Am
open Go
def okw(P:Program)(E:Env)(h:aG)(w:World)(x:Sem Next)(v:af)(h':aG):Prop:=
 ∃u w' E',(x.run P w= .ok (.value u) w'∨(x.run P w= .ok .skip w'/\u=undef))/\eG E' h' w'/\Full E' h'/\Ext E h w E' h' w'/\de E' w' v u
theorem oF(b:Nat): ∀(vs:List Value)(o:Nat)(w:World),(w.setCells b o vs).heap.size=w.heap.size/\(w.setCells b o vs).os=w.os/\(w.setCells b o vs).tape=w.tape/\(w.setCells b o vs).output=w.output/\ ∀i,i≠b->(w.setCells b o vs).heap[i]?=w.heap[i]?
 | [],o,w=>⟨rfl,rfl,rfl,rfl,fun _ _=>rfl⟩
 |v::vs,o,w=>by
  obtain⟨h1,h2,h3,h4,h5⟩:=oF b vs (o+1) (w.setCell ⟨b,o,none⟩ v);refine⟨by rw[World.setCells,h1];simp[World.setCell],by rw[World.setCells,h2];rfl,by rw[World.setCells,h3];rfl,by rw[World.setCells,h4];rfl,fun i hi=>?_⟩;rw[World.setCells,h5 i hi];simp[World.setCell,Array.getElem?_modify,Ne.symm hi]
section
variable{P:Program}{E:Env}{w w':World}{h:aG}
theorem eG.write(s:eG E h w){id b:Nat}{sl:Slot}{o':dH}(hm:E.m id=some sl)(hb:sl.Da=some b)(hlen:id<h.length)
  (Mg:w'.heap.size=w.heap.size) (lT: ∀i,i≠b->w'.heap[i]?=w.heap[i]?) (VC:w'.os=w.os) (ht:w'.tape=w.tape) (ho:w'.output=w.output)
  (eb:(∀a v,de E w a v->de E w' a v)->eO E w' o' sl):eG E (h.set id o') w'/\Ext E h w E (h.set id o') w'/\ ∀a v,de E w a v->de E w' a v:=by
   have hx:Ext E h w E (h.set id o') w':=⟨⟨fun _ h=>h,fun _ h=>.inl h,fun c _ hn=>lT c fun e=>hn (by subst e;exact⟨id,sl,hm,hb⟩),fun _ _ h=>.inl h,fun _ h=>.inl h,by simp,by omega,VC,ht,ho⟩,fun _ _ h=>h⟩;have hr: ∀a v,de E w a v->de E w' a v:=fun a v h=>h.ext hx s;refine⟨⟨?_,s.inj,s.nS,fun c hc=>by rw[Mg];exact s.lt c hc,fun c hc=>by rw[Mg];exact s.pM c hc⟩,hx,hr⟩;intro k o s' hk ja;rw[List.getElem?_set]at hk;split at hk
   ·rename_i e;subst e;simp[hlen]at hk;subst hk;rw[hm]at ja;cases ja
    exact eb hr
   ·rename_i e;exact(s.obj k o s' hk ja).mono hr fun c hc=>lT c fun ec=>by subst ec;exact e (s.inj id k _ _ _ hm ja hb hc)
theorem En{u:af}(h:u.bQ=true):u.cells=[u]:=by cases u<;>first|rfl|cases h
theorem AA{x x':af}{off:Nat}{vs:List af}(h:Ac x off vs=some x')(hc:vs.all af.bQ=true):
  off+vs.length<=x.cells.length/\x'.cells.length=x.cells.length/\ ∀k,x'.cells[k]?=if off<=k/\k<off+vs.length then vs[k-off]? else x.cells[k]?:=by
   have one:x.cells=[x]->off=0->vs=[x']->off+vs.length<=x.cells.length/\x'.cells.length=x.cells.length/\ ∀k,x'.cells[k]?=if off<=k/\k<off+vs.length then vs[k-off]? else x.cells[k]?:=by
    intro hx h0 hv;subst h0 hv;have h1:x'.cells=[x']:=En (by simpa using hc);rw[hx,h1];refine⟨by simp,rfl,fun k=>?_⟩
    cases k with
    |zero=>simp
    |succ k=>simp
   cases x
   case agg cs=>
    simp only[Ac]at h;split at h
    ·rename_i hle;cases h
     refine⟨hle,by simp[af.cells];omega,fun k=>Az cs vs off hle k⟩
    ·cases h
   all_goals
    simp only[Ac]at h;split at h
    ·cases h;exact one rfl rfl rfl
    ·cases h
theorem zF(w:World)(b o:Nat)(ty:TypeId)(v:Value)(ht:w.there b o v.cells.size)(hi:(P.info? ty).map (·.size)=some v.cells.size)(h1: ∀c∈v.cells,c.oneCell'=true):
  (Instr.storeAt ty (.pointer (some ⟨b,o,none⟩)) v).run P w= .ok () (w.setCells b o v.cells.toList):=by
   have:=run_storeCells_cells (P:=P) b o v.cells.toList 0 w (fun j hj=>by simpa using(ht j (by simpa using hj)).1) (fun j hj=>by simpa using(ht j (by simpa using hj)).2) (fun c hc=>h1 c (by simpa using hc))
   cases hq:P.info? ty with
   |none=>simp[hq]at hi
   |some i=>
    have hs:v.cells.size=i.size:=by simp[hq]at hi;omega
    simp only[Nat.add_zero]at this;simp[Instr.storeAt,Instr.sureAddr,storeVar,sizeOf,typeInfo,hq,hs,this]
theorem de.one{a:af}{v:Value}(h:de E w a v)(hc:a.cells.all af.bQ=true): ∀c∈v.cells,c.oneCell'=true:=by
 intro c SQ;obtain⟨h1,h2⟩:=h.cells;obtain⟨j,hj,rfl⟩:=Array.mem_iff_getElem.1 SQ;obtain⟨x,hx⟩:=bP (l:=a.cells) (i:=j) (by omega);obtain⟨u,hu,hr⟩:=h2 j x hx;rw[abb hj]at hu;cases hu
 exact hr.bQ (aaj.1 hc x (aaq hx))
theorem Cy{b base off:Nat}{x x':af}{v:Value}{a:af}(hr:de E w a v)(hx:jO E w b base x)(rq:Ac x off a.cells=some x')(hc:a.cells.all af.bQ=true)
  (VD: ∀j,j<a.cells.length->(w.cell? ⟨b,base+off+j,none⟩).isSome=true)
  (Uz: ∀a v,de E w a v->de E (w.setCells b (base+off) v.cells.toList) a v->True) (um: ∀a u,de E w a u->de E (w.setCells b (base+off) v.cells.toList) a u):jO E (w.setCells b (base+off) v.cells.toList) b base x':=by
   obtain⟨h1,h2,h3⟩:=AA rq hc;obtain⟨c1,c2⟩:=hr.cells;intro j c hj;rw[h3]at hj;split at hj
   ·rename_i hk;obtain⟨u,hu,xA⟩:=c2 _ c hj;have fK:j-off<v.cells.toList.length:=by simp;have:=hk.2;omega
    have:=World.cell?_setCells_in b v.cells.toList (base+off) w (fun i hi=>VD i (by simpa[c1]using hi)) (j-off) fK;refine⟨u,?_,um _ _ xA⟩;have e:base+off+(j-off)=base+j:=by omega
    rw[e]at this;rw[this];rw[<-hu];simp
   ·rename_i hk;obtain⟨u,hu,xA⟩:=hx j c hj;refine⟨u,?_,um _ _ xA⟩;rw[World.cell?_setCells_out b _ _ _ _ (fun _ _=>?_),hu];have:v.cells.toList.length=a.cells.length:=by simp[c1]
    rw[this];show base+j<base+off∨base+off+a.cells.length<=base+j;omega
theorem GM(s:eG E h w)(hf:Full E h){t:TypeId}{a v:af}{va vv:Value}{h':aG}(hh:sA P t a v h=some h')(ha:de E w a va)(hv:de E w v vv):
  ∃w',(Instr.storeAt t va vv).run P w= .ok () w'/\eG E h' w'/\Full E h'/\Ext E h w E h' w':=by
   unfold sA at hh;split at hh
   ·rename_i id i off bt sz ht;obtain⟨d,inf,hd,hi,_,jP⟩:=sG ht;split at hh
    ·rename_i sI;obtain⟨hl,aF⟩:=sI;have m7:=hv.one aF;have sL:=hv.cells;have aai:(P.info? t).map (·.size)=some vv.cells.size:=by rw[hi];simp;omega
     cases ho:h[id]? with
     |none=>simp[ho]at hh
     |some o=>
      have fK:id<h.length:=(aag.1 ho).1
      cases ha with
      |fJ hc=>cases hc
      |xy _ _ _ ad hm=>
       have:=s.obj id o _ ho hm
       cases o<;>simp only[eO]at this<;>simp[ho]at hh
      |ptr _ _ _ b jB Xi hm=>
       have hk:=s.obj id o _ ho hm
       have go: ∀(base:Nat)(x x':af)(o':dH),base+x.cells.length<=jB->Row w b jB->jO E w b base x->Ac x off v.cells=some x'->i*Xi+off=base+off->
         ((∀a u,de E w a u->de E (w.setCells b (base+off) vv.cells.toList) a u)->jO E (w.setCells b (base+off) vv.cells.toList) b base x'->Row (w.setCells b (base+off) vv.cells.toList) b jB->x'.cells.length=x.cells.length->
           (∀k,(k<base+off∨base+off+v.cells.length<=k)->(w.setCells b (base+off) vv.cells.toList).cell? ⟨b,k,none⟩=w.cell? ⟨b,k,none⟩)->off+v.cells.length<=x.cells.length->eO E (w.setCells b (base+off) vv.cells.toList) o' (.live b jB Xi))->
         ∃w',(Instr.storeAt t (.pointer (some ⟨b,i*Xi+off,none⟩)) vv).run P w= .ok () w'/\eG E (h.set id o') w'/\Full E (h.set id o')/\Ext E h w E (h.set id o') w':=by
          intro base x x' o' hle eQ Xj rq XN ir;obtain⟨c1,c2,c3⟩:=AA rq aF;obtain⟨f1,f2,f3,f4,f5⟩:=oF b vv.cells.toList (base+off) w;have hth: ∀j,j<v.cells.length->(w.cell? ⟨b,base+off+j,none⟩).isSome=true:=fun j hj=>eQ.isSome (by omega)
          have hw:=s.write (o':=o') hm rfl fK f1 f5 f2 f3 f4 fun um=>
           ir um (Cy hv Xj rq aF hth (fun _ _ _ _=>trivial) um) (eQ.setCells b _ _ _) c2
            (fun k hk=>World.cell?_setCells_out b _ _ _ _ fun _ _=>by simpa[<-sL.1]using hk) c1
          refine⟨_,?_,hw.1,fun k hk=>hf k (by simpa using hk),hw.2.1⟩;rw[XN];exact zF w b (base+off) t vv (fun j hj=>⟨hth j (by omega),eQ.frozen _⟩) aai m7
       cases o with
       |box x=>
        simp only[eO]at hk;obtain⟨eQ,hle,Xj⟩:=hk;simp only[ho]at hh;split at hh
        ·rename_i AB;subst AB;simp only[nM]at hh;obtain⟨x',vS,rfl⟩:=hh;exact go 0 x x' (.box x') (by omega) eQ Xj vS (by simp) fun um VE PN XO SP Vx=>⟨PN,by omega,VE⟩
        ·cases hh
       |arr jz es=>
        simp only[eO]at hk;obtain⟨rfl,eQ,hle,hs,Xj⟩:=hk;simp only[ho]at hh
        cases hx:es[i]? with
        |none=>simp[hx]at hh
        |some x=>
         simp only[hx,nM]at hh;obtain⟨x',vS,rfl⟩:=hh;have nK:i<es.length:=(aag.1 hx).1;have zN:=hs x (aaq hx)
         have xE:i*jz+jz<=jB:=by
          have:=aa1 jz (show i+1<=es.length from nK);rw[Nat.succ_mul]at this;omega
         refine go (i*jz) x x' (.arr jz (es.set i x')) (by omega) eQ (Xj i x hx) vS rfl fun um VE PN XO SP Vx=>⟨rfl,PN,by simpa using hle,fun y hy=>?_,fun k y hy=>?_⟩
         ·rcases List.mem_or_eq_of_mem_set hy with hy|hy
          ·exact hs y hy
          ·subst hy;omega
         ·rw[List.getElem?_set]at hy;split at hy
          ·rename_i e;subst e;simp[nK]at hy;subst hy;exact VE
          ·rename_i e;intro j c hj;obtain⟨u,hu,xA⟩:=Xj k y hy j c hj;refine⟨u,?_,um _ _ xA⟩
           have Uw:j<jz:=by
            rw[<-hs y (aaq hy)];exact(aag.1 hj).1
           rw[SP,hu];rcases Nat.lt_or_gt_of_ne e with h1|h1
           ·right
            have:=aa1 jz (show i+1<=k from h1);rw[Nat.succ_mul]at this;omega
           ·left
            have:=aa1 jz (show k+1<=i from h1);rw[Nat.succ_mul]at this
            omega
       |qv ks vs=>simp[ho]at hh
       |iter q pos=>simp[ho]at hh
       |dead=>simp[ho]at hh
    ·cases hh
   ·cases hh
end
end Go.Am

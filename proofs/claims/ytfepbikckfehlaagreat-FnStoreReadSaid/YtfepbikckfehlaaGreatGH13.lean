/- Calls that come to values, by the plainer walk. -/
import Derived.Test.YtfepbikckfehlaaGreatGH12
set_option linter.unusedVariables false
set_option linter.unusedSimpArgs false
set_option maxHeartbeats 4000000
namespace Go.Proofs.YtfepbikckfehlaaGreat
open Go Go.Am
def uG(c:af):Bool:=match c with
 | .agg ds=>ds.all af.f8
 |c=>c.f8
theorem rD{n sz:Nat}{es:List af}(h: ∀c∈es,uG c=true):cJ.keep n (.arr sz es)= .arr sz (es.map (hZ n)):=by
 have hk:(cJ.arr sz es).keeps=true:=aG.2 h;simp only[cJ.keep,hk]
theorem m6{h h1:aC}{id:Nat}{o:cJ}(hi:h1[id]?=some o):(h++h1.map (cJ.keep h.length))[id+h.length]?=some (cJ.keep h.length o):=by
 rw[List.getElem?_append_right (by omega),Nat.add_sub_cancel,List.getElem?_map,hi];rfl
theorem i7.f8{α:Type}{f:α->af}{sz:Nat}{h:aC}{xs:List α}{v:af}{F:List Nat}(ho:i7 f sz h xs v F):v.f8=true:=by
 rcases ho with⟨_,_,rfl|rfl⟩|⟨id,rfl,_,_⟩<;>rfl
theorem i7.shift{α:Type}{f:α->af}{sz:Nat}{h h1:aC}{xs:List α}{v:af}{F:List Nat}(hk: ∀x,uG (f x)=true)(hs: ∀n x,hZ n (f x)=f x)(ho:i7 f sz h1 xs v F):
  i7 f sz (h++h1.map (cJ.keep h.length)) xs (l6 h.length v) (F.map (· +h.length)):=by
   rcases ho with⟨rfl,rfl,rfl|rfl⟩|⟨id,rfl,h2,rfl⟩
   ·exact .inl ⟨rfl,rfl,.inl rfl⟩
   ·exact .inl ⟨rfl,rfl,.inr rfl⟩
   ·refine .inr ⟨id+h.length,rfl,?_,rfl⟩;rw[m6 h2,rD (fun c hc=>by obtain⟨x,_,rfl⟩:=bj.1 hc;exact hk x),List.map_map]
    congr 2
    exact List.map_congr_left fun x _=>hs _ x
theorem nR.f8{h:aC}{ps:List ax}{D:af}{F:List Nat}(ho:nR h ps D F):D.f8=true:=by
 rcases ho with⟨_,rfl,_⟩|⟨id,vs,Fs,rfl,_⟩<;>rfl
theorem vZ{h h1:aC}: ∀(N:Nat),(∀(p:ax)(v:af)(F:List Nat),SizeOf.sizeOf p<=N->jH h1 p v F->jH (h++h1.map (cJ.keep h.length)) p (hZ h.length v) (F.map (· +h.length))/\uG v=true/\ ∃cs,v= .agg cs)/\
  ∀(ps:List ax)(vs:List af)(F:List Nat),SizeOf.sizeOf ps<=N->fG h1 ps vs F->fG (h++h1.map (cJ.keep h.length)) ps (vs.map (hZ h.length)) (F.map (· +h.length))/\ ∀v∈vs,uG v=true:=by
   intro N
   induction N with
   |zero=>
    refine⟨fun p v F hs=>?_,fun ps vs F hs hp=>?_⟩
    ·cases p;simp at hs
    ·cases ps<;>simp at hs
   |succ N ih=>
    refine⟨fun p v F hs hp=>?_,fun ps vs F hs hp=>?_⟩
    ·obtain⟨aw,m,aA,cells,a,b,ao,agg,col,al⟩:=p;rw[kA]at hp⊢;obtain⟨C,K,D,Fc,Fk,Fd,rfl,h1,h2,h3,rfl⟩:=hp;have c1:=h1.f8;have c2:=h2.f8;have c3:=nR.f8 h3;refine⟨⟨l6 _ C,l6 _ K,l6 _ D,Fc.map (· +h.length),Fk.map (· +h.length),Fd.map (· +h.length),rfl,h1.shift (fun _=>rfl) fun _ _=>rfl,h2.shift (fun _=>rfl) fun _ _=>rfl,?_,by simp⟩,?_,_,rfl⟩
     ·rcases h3 with⟨rfl,rfl,rfl⟩|⟨id,vs,Fs,rfl,h5,h6,rfl⟩
      ·exact .inl ⟨rfl,rfl,rfl⟩
      ·obtain⟨g1,g2⟩:=ih.2 al vs Fs (by simp at hs;omega) h6;exact .inr ⟨id+h.length,_,_,rfl,by rw[m6 h5,rD g2],g1,by simp⟩
     ·simp only[uG,lL,List.all_cons,c1,c2,c3,List.all_nil,Bool.and_true,aX];rfl
    ·cases ps with
     |nil=>simp only[fG]at hp⊢;obtain⟨rfl,rfl⟩:=hp;exact⟨⟨rfl,rfl⟩,by simp⟩
     |cons p ps=>
      simp only[fG]at hp⊢;obtain⟨v,eo,F1,F2,rfl,rfl,h1,h2⟩:=hp;simp at hs;obtain⟨g1,g2,_⟩:=ih.1 p v F1 (by omega) h1;obtain⟨g3,g4⟩:=ih.2 ps eo F2 (by omega) h2;refine⟨⟨_,_,_,_,rfl,by simp,g1,g3⟩,fun w hw=>?_⟩;rcases aW.1 hw with rfl|hw
      ·exact g2
      ·exact g4 w hw
theorem jX{F:List Nat}(n:Nat)(h:F.Nodup):(F.map (· +n)).Nodup:=by
 induction F with
 |nil=>simp
 |cons x xs ih=>
  simp only[aM,List.nodup_cons]at h⊢;refine⟨fun hm=>?_,ih h.2⟩;obtain⟨y,hy,he⟩:=bj.1 hm;have:y=x:=by simpa using he
  subst this;exact h.1 hy
def Rl(pr:bL)(f:FuncId)(args:List af)(p:ax):Prop:=∃v h1 F,call (du pr) f args []=some (.ret v h1)/\jH h1 p v F/\F.Nodup
def LZ{α:Type}(g:α->af)(sz:Nat)(pr:bL)(f:FuncId)(args:List af)(xs:List α):Prop:=∃v h1 F,call (du pr) f args []=some (.ret v h1)/\i7 g sz h1 xs v F/\F.Nodup
def WC(pr:bL)(f:FuncId)(args:List af)(ps:List ax):Prop:=∃v h1 F,call (du pr) f args []=some (.ret v h1)/\nR h1 ps v F/\F.Nodup
theorem Rl.at{pr:bL}{f:FuncId}{args cH:List af}{p:ax}{h:aC}(hr:Rl pr f cH p)(hM:fF f=Am.Mode.N)(hs:cj h args=some cH):
  ∃v hh F,bN (du pr) (call (du pr)) f args h=some (.ret v hh)/\h <+: hh/\jH hh p v F/\F.Nodup/\ ∀id∈F,h.length<=id:=by
   obtain⟨v,h1,F,hc,ho,hn⟩:=hr;obtain⟨g1,g2,cs,rfl⟩:=(vZ (h:=h) _).1 p v F (aB _) ho;have hm:(du pr).M f= .N:=hM;refine⟨pQ h.length (.agg cs),h++h1.map (cJ.keep h.length),F.map (· +h.length),?_,List.prefix_append _ _,g1,jX _ hn,fun id cq=>?_⟩
   ·unfold bN;have iO:(af.agg cs).clean=true:=g2;simp only[hm,hs,hc,iO,if_true]
   ·obtain⟨y,_,rfl⟩:=bj.1 cq;omega
theorem xy{n:Nat}{v:af}(h:v.f8=true):pQ n v=l6 n v:=by cases v<;>first|rfl|(simp[af.f8,af.isScalar]at h)
theorem tw{v:af}(h:v.f8=true):v.clean=true:=by cases v<;>first|exact h|(simp[af.f8,af.isScalar]at h)
theorem LZ.at{α:Type}{g:α->af}{sz:Nat}{pr:bL}{f:FuncId}{args cH:List af}{xs:List α}{h:aC}(hr:LZ g sz pr f cH xs)(hM:fF f=Am.Mode.N)(hs:cj h args=some cH)(hk: ∀x,uG (g x)=true)(sf: ∀n x,hZ n (g x)=g x):
  ∃v hh F,bN (du pr) (call (du pr)) f args h=some (.ret v hh)/\h <+: hh/\i7 g sz hh xs v F/\F.Nodup/\ ∀id∈F,h.length<=id:=by
   obtain⟨v,h1,F,hc,ho,hn⟩:=hr;have hm:(du pr).M f= .N:=hM;have BZ:=ho.f8;refine⟨pQ h.length v,h++h1.map (cJ.keep h.length),F.map (· +h.length),?_,List.prefix_append _ _,by rw[xy BZ];exact ho.shift hk sf,jX _ hn,fun id cq=>?_⟩
   ·unfold bN;simp only[hm,hs,hc,tw BZ,if_true]
   ·obtain⟨y,_,rfl⟩:=bj.1 cq;omega
theorem WC.at{pr:bL}{f:FuncId}{args cH:List af}{ps:List ax}{h:aC}(hr:WC pr f cH ps)(hM:fF f=Am.Mode.N)(hs:cj h args=some cH):
  ∃v hh F,bN (du pr) (call (du pr)) f args h=some (.ret v hh)/\h <+: hh/\nR hh ps v F/\F.Nodup/\ ∀id∈F,h.length<=id:=by
   obtain⟨v,h1,F,hc,ho,hn⟩:=hr;have hm:(du pr).M f= .N:=hM;have BZ:=nR.f8 ho;refine⟨pQ h.length v,h++h1.map (cJ.keep h.length),F.map (· +h.length),?_,List.prefix_append _ _,?_,jX _ hn,fun id cq=>?_⟩
   ·unfold bN;simp only[hm,hs,hc,tw BZ,if_true]
   ·rw[xy BZ];rcases ho with⟨rfl,rfl,rfl⟩|⟨id,vs,Fs,rfl,h5,h6,rfl⟩
    ·exact .inl ⟨rfl,rfl,rfl⟩
    ·obtain⟨g1,g2⟩:=(vZ (h:=h) _).2 ps vs Fs (aB _) h6;exact .inr ⟨id+h.length,_,_,rfl,by rw[m6 h5,rD g2],g1,by simp⟩
   ·obtain⟨y,_,rfl⟩:=bj.1 cq;omega
end Go.Proofs.YtfepbikckfehlaaGreat
set_option maxHeartbeats 4000000
namespace Go.Am
open Go
theorem dI{P:Program}{fn:Func}{st:St}{d t k:Nat}{x v:af}(hr:fn.results.toList=[.cell d t])(ht:st.tm d= .ptr k 0 0)(hk:st.hp[k]?=some (.box x))(hv:ff P t x 0=some v):oZ P fn (some (.ret st))=some (.ret v st.hp):=by
 have h1:i6 P st (.cell d t)=some v:=by
  simp only[i6,ht,jq,hk,if_true,hv]
 simp only[oZ,hr,cp,h1,Option.map_some];rfl
structure Chunk where
 F:List Nat
 P:aC->Prop
 loc: ∀h h',P h->(∀id∈F,h'[id]?=h[id]?)->P h'
 lt: ∀h,P h-> ∀id∈F,id<h.length
def Chunk.row(k:Nat)(o:cJ):Chunk:=⟨[k],fun h=>h[k]?=some o,fun h h' hp hf=>by rw[hf k (by simp)];exact hp,fun h hp id cq=>by simp at cq;subst cq;exact fX hp⟩
structure ah(h:aC)(L:List Chunk):Prop where
 get': ∀(i:Nat) c,L[i]?=some c->c.P h/\c.F.Nodup
 apart: ∀(i j:Nat) c d,i≠j->L[i]?=some c->L[j]?=some d-> ∀id∈c.F,id∉d.F
theorem ah.nil(h:aC):ah h []:=⟨fun i c hi=>by simp at hi,fun i j c d _ hi=>by simp at hi⟩
section
variable{h h':aC}{L:List Chunk}
theorem ah.get(s:ah h L)(i:Nat){c:Chunk}(hi:L[i]?=some c):c.P h:=(s.get' i c hi).1
theorem ah.row(s:ah h L)(i:Nat){k:Nat}{o:cJ}(hi:L[i]?=some (.row k o)):h[k]?=some o:=s.get i hi
theorem ah.lt(s:ah h L)(i:Nat){c:Chunk}(hi:L[i]?=some c): ∀id∈c.F,id<h.length:=c.lt h (s.get i hi)
theorem ah.cons(s:ah h L){c:Chunk}(hg: ∀id,id<h.length->h'[id]?=h[id]?)(hc:c.P h')(hn:c.F.Nodup)(hd: ∀id∈c.F,h.length<=id):ah h' (c::L):=by
 have old: ∀(i:Nat) d,L[i]?=some d->d.P h':=fun i d hi=>d.loc h h' (s.get i hi) fun id cq=>hg id (s.lt i hi id cq);refine⟨fun i d hi=>?_,fun i j d e xl hi hj id cq=>?_⟩
 ·cases i with
  |zero=>simp at hi;subst hi;exact⟨hc,hn⟩
  |succ i=>exact⟨old i d (by simpa using hi),(s.get' i d (by simpa using hi)).2⟩
 ·cases i with
  |zero=>
   simp at hi;subst hi
   cases j with
   |zero=>exact absurd rfl xl
   |succ j=>intro hm;have:=s.lt j (by simpa using hj) id hm;have:=hd id cq;omega
  |succ i=>
   cases j with
   |zero=>simp at hj;subst hj;intro hm;have:=s.lt i (by simpa using hi) id cq;have:=hd id hm;omega
   |succ j=>exact s.apart i j d e (by omega) (by simpa using hi) (by simpa using hj) id cq
theorem ah.alloc(s:ah h L){k:Nat}{o:cJ}(hk:k=h.length)(e:h'=h++[o]):ah h' (.row k o::L):=
 s.cons (fun id cq=>by subst e;exact List.getElem?_append_left cq) (fA hk e) (by simp[Chunk.row]) (by intro id cq;simp[Chunk.row]at cq;omega)
theorem ah.more(s:ah h L){c:Chunk}(hp:h <+: h')(hc:c.P h')(hn:c.F.Nodup)(hd: ∀id∈c.F,h.length<=id):ah h' (c::L):=
 s.cons (fun id cq=>by obtain⟨t,rfl⟩:=hp;exact List.getElem?_append_left cq) hc hn hd
theorem ah.grow(s:ah h L)(hg: ∀id,id<h.length->h'[id]?=h[id]?):ah h' L:=
 ⟨fun i d hi=>⟨d.loc h h' (s.get i hi) fun id cq=>hg id (s.lt i hi id cq),(s.get' i d hi).2⟩,s.apart⟩
theorem ah.oN(s:ah h L)(i:Nat){c c':Chunk}(hi:L[i]?=some c)(hg: ∀id,id<h.length->id∉c.F->h'[id]?=h[id]?)(hc:c'.P h')(hn:c'.F.Nodup)(hd: ∀id∈c'.F,id∈c.F∨h.length<=id):ah h' (L.set i c'):=by
 have mg:i<L.length:=(List.getElem?_eq_some_iff.1 hi).1;have other: ∀(j:Nat) d,j≠i->L[j]?=some d->d.P h':=fun j d hj HF=>d.loc h h' (s.get j HF) fun id cq=>hg id (s.lt j HF id cq) (s.apart j i d c hj HF hi id cq)
 have IK: ∀(j:Nat) d,(L.set i c')[j]?=some d->(j=i/\d=c')∨(j≠i/\L[j]?=some d):=by
  intro j d hj
  by_cases e:i=j
  ·subst e;rw[List.getElem?_set_self mg]at hj;cases hj;exact .inl ⟨rfl,rfl⟩
  ·rw[List.getElem?_set_ne e]at hj;exact .inr ⟨fun h=>e h.symm,hj⟩
 have OI: ∀(j:Nat) d,j≠i->L[j]?=some d-> ∀id∈c'.F,id∉d.F:=by
  intro j d hj hdj id cq hm;rcases hd id cq with h1|h1
  ·exact s.apart i j c d (fun e=>hj e.symm) hi hdj id h1 hm
  ·have:=s.lt j hdj id hm;omega
 refine⟨fun j d hj=>?_,fun j k d e Ns hj hk id cq hm=>?_⟩
 ·rcases IK j d hj with⟨_,rfl⟩|⟨h1,h2⟩
  ·exact⟨hc,hn⟩
  ·exact⟨other j d h1 h2,(s.get' j d h2).2⟩
 ·rcases IK j d hj with⟨rfl,rfl⟩|⟨h1,h2⟩<;>rcases IK k e hk with⟨rfl,rfl⟩|⟨h3,h4⟩
  ·exact Ns rfl
  ·exact OI k e h3 h4 id cq hm
  ·exact OI j d h1 h2 id hm cq
  ·exact s.apart j k d e Ns h2 h4 id cq hm
theorem ah.set(s:ah h L)(i:Nat){k:Nat}{o o':cJ}(hi:L[i]?=some (.row k o))(e:h'=h.set k o'):ah h' (L.set i (.row k o')):=
 s.oN i hi (fun id _ cq=>by subst e;exact List.getElem?_set_ne (fun e=>cq (by simp[Chunk.row,e]))) (fK e (s.row i hi)) (by simp[Chunk.row]) (fun id cq=>.inl cq)
theorem ah.drop(s:ah h L)(i:Nat):ah h (L.eraseIdx i):=by
 have key: ∀(j:Nat) d,(L.eraseIdx i)[j]?=some d->L[if j<i then j else j+1]?=some d:=by
  intro j d hj;rw[List.getElem?_eraseIdx]at hj;split
  ·rename_i hl;rw[if_pos hl]at hj;exact hj
  ·rename_i hl;rw[if_neg hl]at hj;exact hj
 refine⟨fun j d hj=>s.get' _ d (key j d hj),fun j k d e Ns hj hk=>s.apart _ _ d e ?_ (key j d hj) (key k e hk)⟩;split<;>split<;>omega
theorem ah.move(s:ah h L)(i:Nat){k k2:Nat}{o o':cJ}(hi:L[i]?=some (.row k o))(hk:k2=h.length)(e:h'=h.set k .dead++[o']):ah h' (.row k2 o'::L.eraseIdx i):=by
 have s1:=(s.set i (h':=h.set k .dead) (o':=.dead) hi rfl).drop i
 have:(L.set i (.row k .dead)).eraseIdx i=L.eraseIdx i:=by
  apply List.ext_getElem?;intro j;rw[List.getElem?_eraseIdx,List.getElem?_eraseIdx];split
  ·rw[List.getElem?_set_ne (by omega)]
  ·rw[List.getElem?_set_ne (by omega)]
 rw[this]at s1;exact s1.alloc (by simp[hk]) e
theorem ah.front(s:ah h L)(i:Nat){c:Chunk}(hi:L[i]?=some c):ah h (c::L.eraseIdx i):=by
 have key: ∀(j:Nat) d,(L.eraseIdx i)[j]?=some d->L[if j<i then j else j+1]?=some d:=by
  intro j d hj;rw[List.getElem?_eraseIdx]at hj;split
  ·rename_i hl;rw[if_pos hl]at hj;exact hj
  ·rename_i hl;rw[if_neg hl]at hj;exact hj
 refine⟨fun j d hj=>?_,fun j k d e Ns hj hk=>?_⟩
 ·cases j with
  |zero=>simp at hj;subst hj;exact s.get' i _ hi
  |succ j=>exact s.get' _ d (key j d (by simpa using hj))
 ·cases j with
  |zero=>
   simp at hj;subst hj
   cases k with
   |zero=>exact absurd rfl Ns
   |succ k=>exact s.apart i _ _ e (by split<;>omega) hi (key k e (by simpa using hk))
  |succ j=>
   cases k with
   |zero=>simp at hk;subst hk;exact s.apart _ i d _ (by split<;>omega) (key j d (by simpa using hj)) hi
   |succ k=>exact s.apart _ _ d e (by split<;>split<;>omega) (key j d (by simpa using hj)) (key k e (by simpa using hk))
theorem OJ{h:aC}{id:Nat}{o:cJ}(e:h[id]?=some o):h.set id o=h:=by
 apply List.ext_getElem?;intro j
 by_cases hj:id=j
 ·subst hj;rw[List.getElem?_set_self (fX e),e]
 ·rw[List.getElem?_set_ne hj]
theorem m7{sz:Nat}{ys:List af}{K:af->aC->Prop}(s:ah h L)(hy:ys≠[])(hl:ys.length<=br)(hk: ∀k h',ah h' (.row k (.arr sz ys)::L)->K (.own k 0 ys.length) h'):ID h sz .nil ys K:=
 .inr ⟨hy,hl,fun k h' e1 e2=>hk k h' (s.alloc e1 e2)⟩
end
theorem ah.q1{h:aC}{L:List Chunk}{a0 c:Chunk}(S:ah h (a0::c::L)):ah h (c::a0::L):=S.front 1 rfl
theorem ah.q2{h:aC}{L:List Chunk}{a0 a1 c:Chunk}(S:ah h (a0::a1::c::L)):ah h (c::a0::a1::L):=S.front 2 rfl
theorem ah.q3{h:aC}{L:List Chunk}{a0 a1 a2 c:Chunk}(S:ah h (a0::a1::a2::c::L)):ah h (c::a0::a1::a2::L):=S.front 3 rfl
theorem ah.q4{h:aC}{L:List Chunk}{a0 a1 a2 a3 c:Chunk}(S:ah h (a0::a1::a2::a3::c::L)):ah h (c::a0::a1::a2::a3::L):=S.front 4 rfl
theorem ah.q5{h:aC}{L:List Chunk}{a0 a1 a2 a3 a4 c:Chunk}(S:ah h (a0::a1::a2::a3::a4::c::L)):ah h (c::a0::a1::a2::a3::a4::L):=S.front 5 rfl
theorem ah.q6{h:aC}{L:List Chunk}{a0 a1 a2 a3 a4 a5 c:Chunk}(S:ah h (a0::a1::a2::a3::a4::a5::c::L)):ah h (c::a0::a1::a2::a3::a4::a5::L):=S.front 6 rfl
theorem ah.q7{h:aC}{L:List Chunk}{a0 a1 a2 a3 a4 a5 a6 c:Chunk}(S:ah h (a0::a1::a2::a3::a4::a5::a6::c::L)):ah h (c::a0::a1::a2::a3::a4::a5::a6::L):=S.front 7 rfl
theorem ah.q9{h:aC}{L:List Chunk}{a0 a1 a2 a3 a4 a5 a6 a7 a8 c:Chunk}(S:ah h (a0::a1::a2::a3::a4::a5::a6::a7::a8::c::L)):ah h (c::a0::a1::a2::a3::a4::a5::a6::a7::a8::L):=S.front 9 rfl
theorem ah.w0{h h':aC}{L:List Chunk}{k:Nat}{o:cJ}{α:Type}{f:α->cJ}{v:α}(S:ah h (.row k o::L))(e:h'=h.set k (f v)):ah h' (.row k (f v)::L):=S.set 0 rfl e
theorem ah.w1{h h':aC}{L:List Chunk}{a0:Chunk}{k:Nat}{o:cJ}{α:Type}{f:α->cJ}{v:α}(S:ah h (a0::.row k o::L))(e:h'=h.set k (f v)):ah h' (a0::.row k (f v)::L):=S.set 1 rfl e
theorem ah.w2{h h':aC}{L:List Chunk}{a0 a1:Chunk}{k:Nat}{o:cJ}{α:Type}{f:α->cJ}{v:α}(S:ah h (a0::a1::.row k o::L))(e:h'=h.set k (f v)):ah h' (a0::a1::.row k (f v)::L):=S.set 2 rfl e
theorem ah.w3{h h':aC}{L:List Chunk}{a0 a1 a2:Chunk}{k:Nat}{o:cJ}{α:Type}{f:α->cJ}{v:α}(S:ah h (a0::a1::a2::.row k o::L))(e:h'=h.set k (f v)):ah h' (a0::a1::a2::.row k (f v)::L):=S.set 3 rfl e
theorem ah.w4{h h':aC}{L:List Chunk}{a0 a1 a2 a3:Chunk}{k:Nat}{o:cJ}{α:Type}{f:α->cJ}{v:α}(S:ah h (a0::a1::a2::a3::.row k o::L))(e:h'=h.set k (f v)):ah h' (a0::a1::a2::a3::.row k (f v)::L):=S.set 4 rfl e
theorem ah.w5{h h':aC}{L:List Chunk}{a0 a1 a2 a3 a4:Chunk}{k:Nat}{o:cJ}{α:Type}{f:α->cJ}{v:α}(S:ah h (a0::a1::a2::a3::a4::.row k o::L))(e:h'=h.set k (f v)):ah h' (a0::a1::a2::a3::a4::.row k (f v)::L):=S.set 5 rfl e
theorem ah.w6{h h':aC}{L:List Chunk}{a0 a1 a2 a3 a4 a5:Chunk}{k:Nat}{o:cJ}{α:Type}{f:α->cJ}{v:α}(S:ah h (a0::a1::a2::a3::a4::a5::.row k o::L))(e:h'=h.set k (f v)):ah h' (a0::a1::a2::a3::a4::a5::.row k (f v)::L):=S.set 6 rfl e
theorem ah.w7{h h':aC}{L:List Chunk}{a0 a1 a2 a3 a4 a5 a6:Chunk}{k:Nat}{o:cJ}{α:Type}{f:α->cJ}{v:α}(S:ah h (a0::a1::a2::a3::a4::a5::a6::.row k o::L))(e:h'=h.set k (f v)):ah h' (a0::a1::a2::a3::a4::a5::a6::.row k (f v)::L):=S.set 7 rfl e
theorem ah.w10{h h':aC}{L:List Chunk}{a0 a1 a2 a3 a4 a5 a6 a7 a8 a9:Chunk}{k:Nat}{o:cJ}{α:Type}{f:α->cJ}{v:α}(S:ah h (a0::a1::a2::a3::a4::a5::a6::a7::a8::a9::.row k o::L))(e:h'=h.set k (f v)):ah h' (a0::a1::a2::a3::a4::a5::a6::a7::a8::a9::.row k (f v)::L):=S.set 10 rfl e
theorem ah.Za{h h':aC}{L:List Chunk}{a0 a1 a2 a3 a4 a5 a6 a7 a8 a9 WD:Chunk}{k:Nat}{o:cJ}{α:Type}{f:α->cJ}{v:α}(S:ah h (a0::a1::a2::a3::a4::a5::a6::a7::a8::a9::WD::.row k o::L))(e:h'=h.set k (f v)):ah h' (a0::a1::a2::a3::a4::a5::a6::a7::a8::a9::WD::.row k (f v)::L):=S.set 11 rfl e
theorem ah.w13{h h':aC}{L:List Chunk}{a0 a1 a2 a3 a4 a5 a6 a7 a8 a9 WD a11 a12:Chunk}{k:Nat}{o:cJ}{α:Type}{f:α->cJ}{v:α}(S:ah h (a0::a1::a2::a3::a4::a5::a6::a7::a8::a9::WD::a11::a12::.row k o::L))(e:h'=h.set k (f v)):ah h' (a0::a1::a2::a3::a4::a5::a6::a7::a8::a9::WD::a11::a12::.row k (f v)::L):=S.set 13 rfl e
theorem aI{h:aC}{k:Nat}{x:af}{P:af->Prop}{B:Prop}(e:h[k]?=some (.box x))(hP:P x):(∃y,h[k]?=some (.box y)/\0=0/\P y)∨B:=.inl ⟨x,e,rfl,hP⟩
end Go.Am
namespace Go.Proofs.YtfepbikckfehlaaGreat
open Go Go.Am
def _root_.Go.Am.Chunk.dx(p:ax)(v:af)(F:List Nat):Chunk:=⟨F,fun h=>jH h p v F,fun h h' hp hf=>jH.frame hp hf,fun h hp=>jH.lt hp⟩
def _root_.Go.Am.Chunk.abh(ps:List ax)(vs:List af)(F:List Nat):Chunk:=⟨F,fun h=>fG h ps vs F,fun h h' hp hf=>fG.frame hp hf,fun h hp=>fG.lt hp⟩
def _root_.Go.Am.Chunk.al(ps:List ax)(D:af)(F:List Nat):Chunk:=⟨F,fun h=>nR h ps D F,fun h h' hp hf=>nR.frame hp hf,fun h hp=>nR.lt hp⟩
def _root_.Go.Am.Chunk.list{α:Type}(f:α->af)(sz:Nat)(xs:List α)(v:af)(F:List Nat):Chunk:=⟨F,fun h=>i7 f sz h xs v F,fun h h' hp hf=>i7.frame hp hf,fun h hp=>i7.lt hp⟩
end Go.Proofs.YtfepbikckfehlaaGreat
set_option maxHeartbeats 4000000
namespace Go.Am
open Go
theorem bO{cf:dS}{tm:Nat->af}{h:aC}{t:TypeId}{a:Operand}{id off:Nat}{x v v':af}(ha:ev cf.G tm a=some (.ptr id 0 off))(hx:h[id]?=some (.box x))(hp:ff cf.P t x off=some v)(he:v'=v):
  aT cf tm h (.load t a)=some (.val v' h):=by
   subst he;simp only[aT,ha,jq,hx,hp,if_true,bh]
def kB(L:List Chunk):List Nat->List Chunk
 | []=>[]
 |i::is=>match L[i]? with
  |some c=>c::kB L is
  |none=>kB L is
theorem v7{L:List Chunk}{d:Chunk}: ∀{is:List Nat},d∈kB L is-> ∃j∈is,L[j]?=some d
 | [],h=>by simp[kB]at h
 |i::is,h=>by
  simp only[kB]at h;split at h
  ·rename_i c hc;rcases aW.1 h with rfl|h
   ·exact⟨i,by simp,hc⟩
   ·obtain⟨j,hj,hd⟩:=v7 h;exact⟨j,by simp[hj],hd⟩
  ·obtain⟨j,hj,hd⟩:=v7 h;exact⟨j,by simp[hj],hd⟩
theorem ah.WE{h:aC}{L:List Chunk}{c:Chunk}(s:ah h L)(hc:c.P h)(hn:c.F.Nodup)(ha: ∀d∈L,∀id∈c.F,id∉d.F):ah h (c::L):=by
 refine⟨fun i d hi=>?_,fun i j d e xl hi hj id cq hm=>?_⟩
 ·cases i with
  |zero=>simp at hi;subst hi;exact⟨hc,hn⟩
  |succ i=>exact s.get' i d (by simpa using hi)
 ·cases i with
  |zero=>
   simp at hi;subst hi
   cases j with
   |zero=>exact xl rfl
   |succ j=>exact ha e (aV (by simpa using hj)) id cq hm
  |succ i=>
   cases j with
   |zero=>simp at hj;subst hj;exact ha d (aV (by simpa using hi)) id hm cq
   |succ j=>exact s.apart i j d e (by omega) (by simpa using hi) (by simpa using hj) id cq hm
theorem ah.pick{h:aC}{L:List Chunk}(s:ah h L): ∀(is:List Nat),is.Nodup->ah h (kB L is)
 | [],_=>ah.nil h
 |i::is,hn=>by
  obtain⟨h1,h2⟩:=List.nodup_cons.1 hn;simp only[kB];split
  ·rename_i c hc
   exact(s.pick is h2).WE (s.get' i c hc).1 (s.get' i c hc).2 fun d hd=>by
    obtain⟨j,hj,hd⟩:=v7 hd;exact s.apart i j c d (fun e=>h1 (e▸hj)) hc hd
  ·exact s.pick is h2
def m8{α:Type}(f:α->af)(sz:Nat)(h:aC)(xs:List α)(v:af):Prop:=(xs=[]/\v= .nil)∨ ∃id,v= .own id 0 xs.length/\h[id]?=some (.arr sz (xs.map f))
def nT:af->List Nat
 | .own id _ _=>[id]
 |_=>[]
def Chunk.acc{α:Type}(f:α->af)(sz:Nat)(xs:List α)(v:af):Chunk:=⟨nT v,fun h=>m8 f sz h xs v,fun h h' hp hf=>by
  rcases hp with hp|⟨id,rfl,h1⟩
  ·exact .inl hp
  ·exact .inr ⟨id,rfl,by rw[hf id (by simp[nT])];exact h1⟩,fun h hp id cq=>by
  rcases hp with⟨_,rfl⟩|⟨id',rfl,h1⟩
  ·simp[nT]at cq
  ·simp[nT]at cq;subst cq;exact fX h1⟩
theorem ah.ma{α:Type}(f:α->af)(sz:Nat){h:aC}{L:List Chunk}(s:ah h L):ah h (.acc f sz [] .nil::L):=
 s.more (c:=.acc f sz [] .nil) (List.prefix_refl _) (.inl ⟨rfl,rfl⟩) (by simp[Chunk.acc,nT]) (by simp[Chunk.acc,nT])
def m9(h:aC):Prop:=h.all cJ.pR=true
theorem m9.alloc{h h':aC}{o:cJ}(hp:m9 h)(ho:o.pR=true)(e:h'=h++[o]):m9 h':=by
 subst e;unfold m9 at*;rw[List.all_append,hp];simp[ho]
theorem m9.set{h h':aC}{o:cJ}{k:Nat}(hp:m9 h)(ho:o.pR=true)(e:h'=h.set k o):m9 h':=by
 subst e;unfold m9 at*;rw[aG]at*;intro x hx;rcases List.mem_or_eq_of_mem_set hx with h|rfl
 ·exact hp x h
 ·exact ho
theorem oQ{α:Type}{f:α->af}{sz:Nat}{h:aC}{B:List Chunk}{xs:List α}{x:α}{v:af}{K:af->aC->Prop}(S:ah h (.acc f sz xs v::B))(hl:xs.length+1<=br)
  (hK: ∀k h',ah h' (.acc f sz (xs++[x]) (.own k 0 (xs++[x]).length)::B)->(m9 h->(∀y∈xs++[x],(f y).NH=true)->m9 h')->K (.own k 0 (xs++[x]).length) h'):ID h sz v [f x] K:=by
   have key: ∀k h',(h'[k]?=some (.arr sz ((xs++[x]).map f)))->m8 f sz h' (xs++[x]) (.own k 0 (xs++[x]).length):=fun k h' hk=>.inr ⟨k,rfl,hk⟩;have h0:m8 f sz h xs v:=S.get 0 rfl;rcases h0 with⟨rfl,rfl⟩|⟨id,rfl,h1⟩
   ·refine .inr ⟨by simp,by simp[br],fun k h' e1 e2=>?_⟩;have S1:=(S.drop 0).alloc e1 e2;dsimp only[List.eraseIdx]at S1;refine hK k h' ((S1.front 0 rfl).oN 0 (c:=.row k (.arr sz [f x])) (c':=.acc f sz [x] (.own k 0 1)) rfl (fun _ _ _=>rfl) (.inr ⟨k,rfl,fA e1 e2⟩) (by simp[Chunk.acc,nT]) (fun id cq=>.inl cq)) fun hp hy=>hp.alloc (by simpa[cJ.pR]using hy x (by simp)) e2
   ·have Ni:(xs.map f).length=xs.length:=by simp
    refine⟨_,h1,rfl,by simp,.inr ⟨by simp,hl,fun k h' e1 e2=>?_⟩⟩;rw[show(xs.map f).take xs.length=xs.map f by rw[List.take_of_length_le (by simp)]]at e2⊢;have e3:xs.map f++[f x]=(xs++[x]).map f:=by simp
    rw[e3]at e2⊢;have S1:=S.oN 0 (c':=.row id .dead) (h':=h.set id .dead) rfl (fun j hj kY=>List.getElem?_set_ne (fun e=>kY (by simp[Chunk.acc,nT,e]))) (fK rfl h1) (by simp[Chunk.row]) (fun j hj=>.inl hj);dsimp only[List.set]at S1;have S2:=(S1.drop 0).alloc (by simpa using e1) e2;dsimp only[List.eraseIdx]at S2;rw[aO]
    exact hK k h' (S2.oN 0 (c:=.row k (.arr sz ((xs++[x]).map f))) (c':=.acc f sz (xs++[x]) (.own k 0 (xs++[x]).length)) rfl (fun _ _ _=>rfl) (.inr ⟨k,rfl,S2.row 0 rfl⟩) (by simp[Chunk.acc,nT]) (fun id cq=>.inl cq))
     fun hp hy=>(hp.set rfl rfl).alloc (by rw[cJ.pR,aG];intro z hz;obtain⟨y,hy',rfl⟩:=bj.1 hz;exact hy y hy') e2
theorem m8.frozen{α:Type}{f:α->af}{sz:Nat}{h:aC}{xs:List α}{v:af}(ha:m8 f sz h xs v)(hf: ∀x∈xs,bS h 4194303 (f x)=some (f x)):snap h v=some (.sl (xs.map f)):=by
 rcases ha with⟨rfl,rfl⟩|⟨id,rfl,h1⟩
 ·rfl
 ·have:=pk h1 fun x hx=>by obtain⟨y,hy,rfl⟩:=bj.1 hx;exact hf y hy
  simpa using this
theorem m8.cases{α:Type}{f:α->af}{sz:Nat}{h:aC}{xs:List α}{v:af}(ha:m8 f sz h xs v):v= .nil∨ ∃id,v= .own id 0 xs.length:=by
 rcases ha with⟨_,h⟩|⟨id,h,_⟩
 ·exact .inl h
 ·exact .inr ⟨id,h⟩
theorem oR{h:aC}{a a':af}(ha:snap h a=some a'):cj h [a]=some [a']:=by simp only[cj,cp,ha]
theorem jI{h:aC}{a a' b b':af}(ha:snap h a=some a')(hb:snap h b=some b'):cj h [a,b]=some [a',b']:=by simp only[cj,cp,ha,hb]
theorem bG{h:aC}{k sz:Nat}{v:af}(hk:h[k]?=some (.arr sz [v])):kh h (.own k 0 1)=some [v]:=by
 simp only[kh,hk];rfl
end Go.Am
namespace Go.Proofs.YtfepbikckfehlaaGreat
open Go Go.Am
variable{pr:bL}(hp:bV pr)
set_option maxRecDepth 100000
def Rm(pr:bL)(f:FuncId)(args:List af)(res:af):Prop:=∃v h1,call (du pr) f args []=some (.ret v h1)/\snap h1 v=some res
theorem Rm.eG{f:FuncId}{args cH:List af}{res:af}(hr:Rm pr f cH res)(hM:fF f=Am.Mode.K)(hs:cj [] args=some cH): ∀h,bN (du pr) (call (du pr)) f args h=some (.ret res h):=by
 intro h;obtain⟨v,h1,hc,hv⟩:=hr;have hm:(du pr).M f= .K:=hM;unfold bN;simp only[hm,hs,hc,hv,bh]
theorem Rm.own{f:FuncId}{args cH:List af}{res:af}{h:aC}(hr:Rm pr f cH res)(hM:fF f=Am.Mode.K)(hn:cj [] args=none)(ho:args.all (af.TE h)=true)(yt:m9 h)(hs:cj h args=some cH):
  bN (du pr) (call (du pr)) f args h=some (.ret res (h.map cJ.freeze)):=by
   obtain⟨v,h1,hc,hv⟩:=hr;have hm:(du pr).M f= .K:=hM;have Zb:h.all cJ.pR=true:=yt;unfold bN;simp only[hm,hn,ho,Zb,Bool.and_true,hs,hc,hv,bh]
end Go.Proofs.YtfepbikckfehlaaGreat
set_option maxHeartbeats 4000000
namespace Go.Am
theorem B1{cf:dS}{tm:Nat->af}{h:aC}{t:TypeId}{x:Operand}{lo hi:Option Operand}{Kj o7:Option Int}{xs:List af}{p:TypeId×Nat}{v:af}
  (hx:ev cf.G tm x=some (.sl xs)) (hl:t9 cf.G tm lo=some Kj) (hh:t9 cf.G tm hi=some o7) (ht:kT cf.P t=some p)
  (hc:0<=Kj.getD 0/\Kj.getD 0<=o7.getD xs.length/\o7.getD xs.length<=xs.length/\xs.all (fun y=>y.cells.length==p.2)=true)
  (hv:v= .sl ((xs.drop (Kj.getD 0).toNat).take ((o7.getD xs.length).toNat-(Kj.getD 0).toNat))):
  aT cf tm h (.slice t x lo hi none)=some (.val v h):=by
   subst hv;obtain⟨t0,sz⟩:=p;simp only[aT,hx,hl,hh,lZ,ht];rw[if_pos hc];rfl
end Go.Am
namespace Go.Proofs.YtfepbikckfehlaaGreat
open Go Go.Am
variable{pr:bL}(hp:bV pr)
set_option maxRecDepth 100000
theorem ea(hp:bV pr){f:FuncId}{args:List af}{res:af}(hn:SX f=true)(ha:cj [] args=some args)(hw:Fe (du pr) f args [] (fun r=>∃v h,r= .ret v h/\snap h v=some res)):dm pr f args res:=by
 intro h;obtain⟨r,hr,v,h1,rfl,hs⟩:=lq (hp.out f (by unfold SX at hn;simp only[aj]at hn;exact hn.1)) hw;have hm:(du pr).M f= .P:=yv hn;unfold bN;simp only[hm,ha,hr,hs,bh]
theorem bH{h:aC}{b c:Bool}(hb:b=c): ∃r,some (dz.ret (.bool b) h)=some r/\ ∃v h1,r=dz.ret v h1/\snap h1 v=some (.bool c):=⟨_,rfl,_,_,rfl,by subst hb;rfl⟩
theorem dO{h:aC}{k:IntKind}{b c:Int}(hb:b=c): ∃r,some (dz.ret (.int k b) h)=some r/\ ∃v h1,r=dz.ret v h1/\snap h1 v=some (.int k c):=⟨_,rfl,_,_,rfl,by subst hb;rfl⟩
theorem aR{P:Program}{fn:Func}{st:St}{d t k a:Nat}{x v u:af}(hr:fn.results.toList=[.cell d t,.tmp k])(ht:st.tm d= .ptr a 0 0)(hk:st.hp[a]?=some (.box x))(hv:ff P t x 0=some v)(hu:st.tm k=u):oZ P fn (some (.ret st))=some (.ret (.dX [v,u]) st.hp):=by
 have h1:i6 P st (.cell d t)=some v:=by
  simp only[i6,ht,jq,hk,if_true,hv]
 have h2:i6 P st (.tmp k)=some u:=by simp only[i6,hu]
 simp only[oZ,hr,cp,h1,h2,bh];rfl
def na{α:Type}(p:α->Bool)(k:Int):List α->Int
 | []=>-1
 |x::xs=>bif p x then k else na p (k+1) xs
theorem Fi{α:Type}(p:α->Bool): ∀(xs:List α)(k:Int),0<=k->(na p k xs>=0↔xs.any p=true)
 | [],k,_=>by simp[na]
 |x::xs,k,hk=>by
  have ih:=Fi p xs (k+1) (by omega);rw[List.any_cons];unfold na
  cases h:p x with
  |true=>simp;exact hk
  |false=>simp only[cond_false,Bool.false_or];exact ih
theorem yw{α:Type}(p:α->Bool)(xs:List α)(k:Int)(hk:0<=k):decide (na p k xs>=0)=xs.any p:=by
 rw[Bool.eq_iff_iff,decide_eq_true_iff];exact Fi p xs k hk
end Go.Proofs.YtfepbikckfehlaaGreat

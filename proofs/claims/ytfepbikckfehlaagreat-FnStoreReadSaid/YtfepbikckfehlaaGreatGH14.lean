/- The program's tests of cells and tests. -/
import Derived.Test.YtfepbikckfehlaaGreatGH13
import Derived.Test.YtfepbikckfehlaaGreatGH12
set_option linter.unusedVariables false
set_option linter.unusedSimpArgs false
set_option maxHeartbeats 4000000
namespace Go.Proofs.YtfepbikckfehlaaGreat
open Go Go.Am
inductive ba where
 |i (x:Int)
 |b (x:Bool)
 |p (q:ax)
 |s (sz:Nat) (xs:List ba)
 |a (sz:Nat) (xs:List ba)
 |g (ds:List ba)
 |v (x:af)
def _root_.Go.Am.af.IL:af->Bool
 | .sl _=>true
 |x=>x.isScalar
def _root_.Go.Am.af.fz:af->Bool
 | .agg cs=>cs.all af.IL
 |x=>x.IL
mutual
def ba.enc:ba->af
 | .i x=>i64 x
 | .b x=>.bool x
 | .p q=>q.enc
 | .s _ xs=>.sl (ba.cz xs)
 | .a _ xs=>.sl (ba.cz xs)
 | .g ds=>.agg (ba.sL ds)
 | .v x=>x
def ba.cz:List ba->List af
 | []=>[]
 |d::ds=>d.enc::ba.cz ds
def ba.sL:List ba->List af
 | []=>[]
 |d::ds=>d.enc.cells++ba.sL ds
end
mutual
def ba.dep:ba->Nat
 | .i _=>1
 | .b _=>1
 | .p q=>2*q.sz+6
 | .s _ xs=>ba.cZ xs+2
 | .a _ xs=>ba.cZ xs+2
 | .g ds=>ba.cZ ds
 | .v _=>1
def ba.cZ:List ba->Nat
 | []=>1
 |d::ds=>max d.dep (ba.cZ ds)
end
mutual
def ba.eX:ba->Nat
 | .i _=>0
 | .b _=>0
 | .p q=>q.sz
 | .s _ xs=>xs.length+ba.eQ xs
 | .a _ xs=>xs.length+ba.eQ xs
 | .g ds=>ba.eQ ds
 | .v _=>0
def ba.eQ:List ba->Nat
 | []=>0
 |d::ds=>d.eX+ba.eQ ds
end
theorem Kz: ∀(N:Nat),(∀d:ba,SizeOf.sizeOf d<=N->d.dep<=3*d.eX+6)/\ ∀ds:List ba,SizeOf.sizeOf ds<=N->ba.cZ ds<=3*ba.eQ ds+6:=by
 intro N
 induction N with
 |zero=>
  refine⟨fun d hs=>?_,fun ds hs=>?_⟩
  ·cases d<;>simp at hs
  ·cases ds<;>simp at hs
 |succ N ih=>
  refine⟨fun d hs=>?_,fun ds hs=>?_⟩
  ·cases d with
   |i x=>simp[ba.dep]
   |b x=>simp[ba.dep]
   |p q=>simp only[ba.dep,ba.eX];omega
   |s sz xs=>
    have:=ih.2 xs (by simp at hs;omega);simp only[ba.dep,ba.eX]
    cases xs with
    |nil=>simp[ba.cZ]
    |cons x xs=>simp only[aJ];omega
   |a sz xs=>
    have:=ih.2 xs (by simp at hs;omega);simp only[ba.dep,ba.eX]
    cases xs with
    |nil=>simp[ba.cZ]
    |cons x xs=>simp only[aJ];omega
   |g ds=>simp only[ba.dep,ba.eX];exact ih.2 ds (by simp at hs;omega)
   |v x=>simp[ba.dep]
  ·cases ds with
   |nil=>simp[ba.cZ]
   |cons d ds=>
    simp at hs;have h1:=ih.1 d (by omega);have h2:=ih.2 ds (by omega);simp only[ba.cZ,ba.eQ];omega
theorem ba.Fj{d:ba}: ∀{ds:List ba},d∈ds->d.eX<=ba.eQ ds
 |x::xs,h=>by
  rcases aW.1 h with rfl|h
  ·simp only[ba.eQ];omega
  ·have:=ba.Fj h;simp only[ba.eQ];omega
theorem ba.nb(xs:List ba):ba.cz xs=xs.map ba.enc:=by induction xs with|nil=>rfl|cons x xs ih=>simp[ba.cz,ih]
theorem ba.tA(xs:List Int):ba.cz (xs.map ba.i)=xs.map i64:=by induction xs with|nil=>rfl|cons x xs ih=>simp[ba.cz,ba.enc,ih]
theorem ba.dM(xs:List ba):(ba.cz xs).length=xs.length:=by simp[ba.nb]
mutual
def bP(h:aC):ba->af->List Nat->Prop
 | .i x,v,F=>v=i64 x/\F=[]
 | .b x,v,F=>v= .bool x/\F=[]
 | .p q,v,F=>jH h q v F
 | .s sz xs,v,F=>(xs=[]/\F=[]/\(v= .nil∨v= .sl []))∨ ∃id vs Fs,v= .own id 0 xs.length/\h[id]?=some (.arr sz vs)/\bZ h xs vs Fs/\F=id::Fs
 | .a sz xs,v,F=>(xs=[]/\F=[]/\v= .nil)∨ ∃id vs Fs,v= .own id 0 xs.length/\h[id]?=some (.arr sz vs)/\bZ h xs vs Fs/\F=id::Fs
 | .g ds,v,F=>∃vs,v= .agg vs/\ep h ds vs F
 | .v x,v,F=>v=x/\F=[]/\x.fz=true
def bZ(h:aC):List ba->List af->List Nat->Prop
 | [],vs,F=>vs=[]/\F=[]
 |d::ds,vs,F=>∃v eo F1 F2,vs=v::eo/\F=F1++F2/\bP h d v F1/\bZ h ds eo F2
def ep(h:aC):List ba->List af->List Nat->Prop
 | [],vs,F=>vs=[]/\F=[]
 |d::ds,vs,F=>∃v eo F1 F2,vs=v.cells++eo/\F=F1++F2/\bP h d v F1/\ep h ds eo F2
end
theorem gb{h:aC}: ∀{ds:List ba}{vs:List af}{F:List Nat},bZ h ds vs F->vs.length=ds.length
 | [],vs,F,hp=>by simp only[bZ]at hp;rw[hp.1];rfl
 |p::ps,vs,F,hp=>by
  simp only[bZ]at hp;obtain⟨v,eo,F1,F2,rfl,rfl,_,h2⟩:=hp;simp[gb h2]
theorem jY{h:aC}: ∀{ps qs:List ba}{vs ws:List af}{F G:List Nat},bZ h ps vs F->bZ h qs ws G->bZ h (ps++qs) (vs++ws) (F++G)
 | [],qs,vs,ws,F,G,hp,hq=>by simp only[bZ]at hp;obtain⟨rfl,rfl⟩:=hp;simpa using hq
 |p::ps,qs,vs,ws,F,G,hp,hq=>by
  simp only[bZ]at hp;obtain⟨v,eo,F1,F2,rfl,rfl,h1,h2⟩:=hp;simp only[List.cons_append,bZ];exact⟨v,eo++ws,F1,F2++G,rfl,by simp,h1,jY h2 hq⟩
theorem nc{h:aC}{d:ba}{v:af}{F:List Nat}(ho:bP h d v F):bZ h [d] [v] F:=by
 simp only[bZ];exact⟨v,[],F,[],rfl,by simp,ho,rfl,rfl⟩
theorem nf{h:aC}: ∀{ps qs:List ba}{vs:List af}{F:List Nat},bZ h (ps++qs) vs F-> ∃v1 v2 F1 F2,vs=v1++v2/\F=F1++F2/\bZ h ps v1 F1/\bZ h qs v2 F2
 | [],qs,vs,F,hp=>⟨[],vs,[],F,rfl,rfl,by simp[bZ],by simpa using hp⟩
 |p::ps,qs,vs,F,hp=>by
  simp only[List.cons_append,bZ]at hp;obtain⟨v,eo,F1,F2,rfl,rfl,h1,h2⟩:=hp;obtain⟨w1,w2,G1,G2,rfl,rfl,h3,h4⟩:=nf h2;exact⟨v::w1,w2,F1++G1,G2,rfl,by simp,by simp only[bZ];exact⟨v,w1,F1,G1,rfl,rfl,h1,h3⟩,h4⟩
theorem B2{h h':aC}: ∀(N:Nat),(∀(d:ba)(v:af)(F:List Nat),SizeOf.sizeOf d<=N->bP h d v F->(∀id∈F,h'[id]?=h[id]?)->bP h' d v F)/\
  (∀(ds:List ba)(vs:List af)(F:List Nat),SizeOf.sizeOf ds<=N->bZ h ds vs F->(∀id∈F,h'[id]?=h[id]?)->bZ h' ds vs F)/\
  ∀(ds:List ba)(vs:List af)(F:List Nat),SizeOf.sizeOf ds<=N->ep h ds vs F->(∀id∈F,h'[id]?=h[id]?)->ep h' ds vs F:=by
   intro N
   induction N with
   |zero=>
    refine⟨fun d v F hs=>?_,fun ds vs F hs=>?_,fun ds vs F hs=>?_⟩
    ·cases d<;>simp at hs
    ·cases ds<;>simp at hs
    ·cases ds<;>simp at hs
   |succ N ih=>
    refine⟨fun d v F hs hp hf=>?_,fun ds vs F hs hp hf=>?_,fun ds vs F hs hp hf=>?_⟩
    ·cases d with
     |i x=>simp only[bP]at hp⊢;exact hp
     |b x=>simp only[bP]at hp⊢;exact hp
     |p q=>simp only[bP]at hp⊢;exact jH.frame hp hf
     |s sz xs=>
      simp only[bP]at hp⊢;rcases hp with h3|⟨id,vs,Fs,h4,h5,h6,rfl⟩
      ·exact .inl h3
      ·exact .inr ⟨id,vs,Fs,h4,by rw[hf id (by simp)];exact h5,ih.2.1 xs vs Fs (by simp at hs;omega) h6 fun id cq=>hf id (by simp[cq]),rfl⟩
     |a sz xs=>
      simp only[bP]at hp⊢;rcases hp with h3|⟨id,vs,Fs,h4,h5,h6,rfl⟩
      ·exact .inl h3
      ·exact .inr ⟨id,vs,Fs,h4,by rw[hf id (by simp)];exact h5,ih.2.1 xs vs Fs (by simp at hs;omega) h6 fun id cq=>hf id (by simp[cq]),rfl⟩
     |g ds=>
      simp only[bP]at hp⊢;obtain⟨vs,rfl,h1⟩:=hp
      exact⟨vs,rfl,ih.2.2 ds vs F (by simp at hs;omega) h1 hf⟩
     |v x=>simp only[bP]at hp⊢;exact hp
    ·cases ds with
     |nil=>simp only[bZ]at hp⊢;exact hp
     |cons p ps=>
      simp only[bZ]at hp⊢;obtain⟨v,eo,F1,F2,rfl,rfl,h1,h2⟩:=hp;simp at hs;exact⟨v,eo,F1,F2,rfl,rfl,ih.1 p v F1 (by omega) h1 fun id cq=>hf id (by simp[cq]),ih.2.1 ps eo F2 (by omega) h2 fun id cq=>hf id (by simp[cq])⟩
    ·cases ds with
     |nil=>simp only[ep]at hp⊢;exact hp
     |cons p ps=>
      simp only[ep]at hp⊢;obtain⟨v,eo,F1,F2,rfl,rfl,h1,h2⟩:=hp;simp at hs;exact⟨v,eo,F1,F2,rfl,rfl,ih.1 p v F1 (by omega) h1 fun id cq=>hf id (by simp[cq]),ih.2.2 ps eo F2 (by omega) h2 fun id cq=>hf id (by simp[cq])⟩
theorem bP.frame{h h':aC}{d:ba}{v:af}{F:List Nat}(ho:bP h d v F)(hf: ∀id∈F,h'[id]?=h[id]?):bP h' d v F:=(B2 _).1 d v F (aB _) ho hf
theorem bZ.frame{h h':aC}{ds:List ba}{vs:List af}{F:List Nat}(ho:bZ h ds vs F)(hf: ∀id∈F,h'[id]?=h[id]?):bZ h' ds vs F:=(B2 _).2.1 ds vs F (aB _) ho hf
theorem OK{h:aC}: ∀(N:Nat),(∀(d:ba)(v:af)(F:List Nat),SizeOf.sizeOf d<=N->bP h d v F-> ∀id∈F,id<h.length)/\
  (∀(ds:List ba)(vs:List af)(F:List Nat),SizeOf.sizeOf ds<=N->bZ h ds vs F-> ∀id∈F,id<h.length)/\
  ∀(ds:List ba)(vs:List af)(F:List Nat),SizeOf.sizeOf ds<=N->ep h ds vs F-> ∀id∈F,id<h.length:=by
   intro N
   induction N with
   |zero=>
    refine⟨fun d v F hs=>?_,fun ds vs F hs=>?_,fun ds vs F hs=>?_⟩
    ·cases d<;>simp at hs
    ·cases ds<;>simp at hs
    ·cases ds<;>simp at hs
   |succ N ih=>
    refine⟨fun d v F hs hp=>?_,fun ds vs F hs hp=>?_,fun ds vs F hs hp=>?_⟩
    ·cases d with
     |i x=>simp only[bP]at hp;rw[hp.2];simp
     |b x=>simp only[bP]at hp;rw[hp.2];simp
     |p q=>simp only[bP]at hp;exact jH.lt hp
     |s sz xs=>
      simp only[bP]at hp;rcases hp with⟨_,rfl,_⟩|⟨id,vs,Fs,h4,h5,h6,rfl⟩
      ·simp
      ·intro i hi;rcases aW.1 hi with rfl|hi
       ·exact fX h5
       ·exact ih.2.1 xs vs Fs (by simp at hs;omega) h6 i hi
     |a sz xs=>
      simp only[bP]at hp;rcases hp with⟨_,rfl,_⟩|⟨id,vs,Fs,h4,h5,h6,rfl⟩
      ·simp
      ·intro i hi;rcases aW.1 hi with rfl|hi
       ·exact fX h5
       ·exact ih.2.1 xs vs Fs (by simp at hs;omega) h6 i hi
     |g ds=>
      simp only[bP]at hp;obtain⟨vs,rfl,h1⟩:=hp
      exact ih.2.2 ds vs F (by simp at hs;omega) h1
     |v x=>simp only[bP]at hp;rw[hp.2.1];simp
    ·cases ds with
     |nil=>simp only[bZ]at hp;rw[hp.2];simp
     |cons p ps=>
      simp only[bZ]at hp;obtain⟨v,eo,F1,F2,rfl,rfl,h1,h2⟩:=hp;simp at hs;intro id cq;rcases bu.1 cq with cq|cq
      ·exact ih.1 p v F1 (by omega) h1 id cq
      ·exact ih.2.1 ps eo F2 (by omega) h2 id cq
    ·cases ds with
     |nil=>simp only[ep]at hp;rw[hp.2];simp
     |cons p ps=>
      simp only[ep]at hp;obtain⟨v,eo,F1,F2,rfl,rfl,h1,h2⟩:=hp;simp at hs;intro id cq;rcases bu.1 cq with cq|cq
      ·exact ih.1 p v F1 (by omega) h1 id cq
      ·exact ih.2.2 ps eo F2 (by omega) h2 id cq
theorem bP.lt{h:aC}{d:ba}{v:af}{F:List Nat}(ho:bP h d v F): ∀id∈F,id<h.length:=(OK _).1 d v F (aB _) ho
theorem bZ.lt{h:aC}{ds:List ba}{vs:List af}{F:List Nat}(ho:bZ h ds vs F): ∀id∈F,id<h.length:=(OK _).2.1 ds vs F (aB _) ho
theorem Fl{α β:Type}(f:α->Option β): ∀(xs ys:List α){us ws:List β},cp f xs=some us->cp f ys=some ws->cp f (xs++ys)=some (us++ws)
 | [],ys,us,ws,h1,h2=>by simp only[cp,Option.some.injEq]at h1;subst h1;exact h2
 |x::xs,ys,us,ws,h1,h2=>by
  simp only[cp]at h1
  cases e1:f x with
  |none=>rw[e1]at h1;simp at h1
  |some u=>
   rw[e1]at h1
   cases e2:cp f xs with
   |none=>rw[e2]at h1;simp at h1
   |some us'=>
    rw[e2]at h1;simp only[Option.some.injEq]at h1;subst h1;simp only[List.cons_append,cp,e1,Fl f xs ys e2 h2]
theorem OL{h:aC}{q:ax}{v:af}{F:List Nat}(ho:jH h q v F): ∃cs,v= .agg cs:=by
 obtain⟨aw,n,aA,cells,a,b,ao,agg,col,al⟩:=q;rw[kA]at ho;obtain⟨C,K,D,Fc,Fk,Fd,rfl,_⟩:=ho;exact⟨_,rfl⟩
theorem sh(q:ax): ∃cs,q.enc= .agg cs:=by
 obtain⟨aw,n,aA,cells,a,b,ao,agg,col,al⟩:=q;exact⟨_,rfl⟩
theorem zC{h:aC}{x:af}(hx:x.IL=true)(n:Nat):bS h (n+1) x=some x:=by
 cases x<;>first|rfl|(simp[af.IL,af.isScalar]at hx)
theorem B3{h:aC}: ∀{xs:List af}(hx:xs.all af.IL=true)(n:Nat),cp (bS h (n+1)) xs=some xs
 | [],_,_=>rfl
 |x::xs,hx,n=>by
  simp only[List.all_cons,aj]at hx;simp only[cp,zC hx.1 n,B3 hx.2 n]
theorem uH{h:aC}: ∀(N:Nat),(∀(d:ba)(v:af)(F:List Nat)(n:Nat),SizeOf.sizeOf d<=N->bP h d v F->d.dep<=n->bS h (n+1) v=some d.enc/\cp (bS h n) v.cells=some d.enc.cells)/\
  (∀(ds:List ba)(vs:List af)(F:List Nat)(n:Nat),SizeOf.sizeOf ds<=N->bZ h ds vs F->ba.cZ ds<=n->cp (bS h (n+1)) vs=some (ba.cz ds))/\
  ∀(ds:List ba)(vs:List af)(F:List Nat)(n:Nat),SizeOf.sizeOf ds<=N->ep h ds vs F->ba.cZ ds<=n->cp (bS h n) vs=some (ba.sL ds):=by
   intro N
   induction N with
   |zero=>
    refine⟨fun d v F n hs=>?_,fun ds vs F n hs=>?_,fun ds vs F n hs=>?_⟩
    ·cases d<;>simp at hs
    ·cases ds<;>simp at hs
    ·cases ds<;>simp at hs
   |succ N ih=>
    refine⟨fun d v F n hs hp hn=>?_,fun ds vs F n hs hp hn=>?_,fun ds vs F n hs hp hn=>?_⟩
    ·cases d with
     |i x=>
      simp only[bP]at hp;obtain⟨rfl,_⟩:=hp;simp only[ba.dep]at hn;obtain⟨n,rfl⟩: ∃k,n=k+1:=⟨n-1,by omega⟩
      exact⟨rfl,rfl⟩
     |b x=>
      simp only[bP]at hp;obtain⟨rfl,_⟩:=hp;simp only[ba.dep]at hn;obtain⟨n,rfl⟩: ∃k,n=k+1:=⟨n-1,by omega⟩
      exact⟨rfl,rfl⟩
     |p q=>
      simp only[bP]at hp;simp only[ba.dep]at hn;have e:bS h (n+1) v=some q.enc:=(Fh _).1 q v F (n+1) (aB _) hp (by omega);refine⟨e,?_⟩;obtain⟨cs,rfl⟩:=OL hp;obtain⟨WB,tf⟩:=sh q;have e2:(cp (bS h n) cs).map af.agg=some q.enc:=e;rw[tf]at e2;simp only[ba.enc,tf,af.cells]
      cases e3:cp (bS h n) cs with
      |none=>rw[e3]at e2;simp at e2
      |some us=>rw[e3]at e2;simpa using e2
     |s sz xs=>
      simp only[bP]at hp;simp only[ba.dep]at hn;obtain⟨n,rfl⟩: ∃k,n=k+2:=⟨n-2,by omega⟩;rcases hp with⟨rfl,_,rfl|rfl⟩|⟨id,vs,Fs,rfl,h5,h6,_⟩
      ·exact⟨rfl,rfl⟩
      ·exact⟨rfl,rfl⟩
      ·have hl:=gb h6;have e1:=ih.2.1 xs vs Fs (n+1) (by simp at hs;omega) h6 (by omega);have e2:=ih.2.1 xs vs Fs n (by simp at hs;omega) h6 (by omega);refine⟨mK h5 hl.symm e1,?_⟩;have e3:=mK h5 hl.symm e2
       simp only[af.cells,cp,e3,ba.enc]
     |a sz xs=>
      simp only[bP]at hp;simp only[ba.dep]at hn;obtain⟨n,rfl⟩: ∃k,n=k+2:=⟨n-2,by omega⟩;rcases hp with⟨rfl,_,rfl⟩|⟨id,vs,Fs,rfl,h5,h6,_⟩
      ·exact⟨rfl,rfl⟩
      ·have hl:=gb h6;have e1:=ih.2.1 xs vs Fs (n+1) (by simp at hs;omega) h6 (by omega);have e2:=ih.2.1 xs vs Fs n (by simp at hs;omega) h6 (by omega);refine⟨mK h5 hl.symm e1,?_⟩;have e3:=mK h5 hl.symm e2
       simp only[af.cells,cp,e3,ba.enc]
     |g ds=>
      simp only[bP]at hp;simp only[ba.dep]at hn;obtain⟨vs,rfl,h1⟩:=hp;have e1:=ih.2.2 ds vs F n (by simp at hs;omega) h1 (by omega);refine⟨?_,?_⟩
      ·show(cp (bS h n) vs).map af.agg=_;rw[e1];rfl
      ·simp only[af.cells,ba.enc]
       exact e1
     |v x=>
      simp only[bP]at hp;obtain⟨rfl,_,hx⟩:=hp;simp only[ba.dep]at hn;obtain⟨n,rfl⟩: ∃k,n=k+1:=⟨n-1,by omega⟩
      have key:v.IL=true->bS h (n+1+1) v=some v/\cp (bS h (n+1)) v.cells=some v.cells:=fun h1=>⟨zC h1 _,by
       have e:v.cells=[v]:=by cases v<;>first|rfl|(simp[af.IL,af.isScalar]at h1)
       rw[e];simp only[cp,zC h1 n]⟩
      cases v with
      |agg cs=>
       have e:=B3 (h:=h) (show cs.all af.IL=true from hx) n;refine⟨?_,e⟩;show(cp (bS h (n+1)) cs).map af.agg=_;rw[e]
       rfl
      |_=>exact key hx
    ·cases ds with
     |nil=>simp only[bZ]at hp;rw[hp.1];rfl
     |cons p ps=>
      simp only[bZ]at hp;obtain⟨v,eo,F1,F2,rfl,rfl,h1,h2⟩:=hp;simp at hs;simp only[ba.cZ]at hn;simp only[cp,(ih.1 p v F1 n (by omega) h1 (by omega)).1,ih.2.1 ps eo F2 n (by omega) h2 (by omega),ba.cz]
    ·cases ds with
     |nil=>simp only[ep]at hp;rw[hp.1];rfl
     |cons p ps=>
      simp only[ep]at hp;obtain⟨v,eo,F1,F2,rfl,rfl,h1,h2⟩:=hp;simp at hs;simp only[ba.cZ]at hn;exact Fl _ _ _ (ih.1 p v F1 n (by omega) h1 (by omega)).2 (ih.2.2 ps eo F2 n (by omega) h2 (by omega))
theorem bP.snap{h:aC}{d:ba}{v:af}{F:List Nat}(ho:bP h d v F)(hd:d.dep<=4194303):Am.snap h v=some d.enc:=by
 obtain⟨n,hn⟩: ∃n:Nat,4194304=n+1:=⟨4194303,by decide⟩;unfold Am.snap;rw[hn];exact((uH _).1 d v F n (aB _) ho (by omega)).1
theorem mC{v:af}{n:Nat}(h:(∃cs,v= .agg cs)∨v.f8=true):(hZ n v).cells=v.cells.map (l6 n):=by
 rcases h with⟨cs,rfl⟩|h
 ·rfl
 ·cases v<;>first|rfl|(simp[af.f8,af.isScalar]at h)
theorem IM{v:af}(h:(∃cs,v= .agg cs)∨v.f8=true)(hk:v.cells.all af.f8=true):uG v=true:=by
 rcases h with⟨cs,rfl⟩|h
 ·exact hk
 ·cases v<;>first|exact h|(simp[af.f8,af.isScalar]at h)
mutual
def ba.KA:ba->Bool
 | .i _=>true
 | .b _=>true
 | .p _=>true
 | .s _ xs=>ba.po xs
 | .a _ xs=>ba.po xs
 | .g ds=>ba.po ds
 | .v _=>false
def ba.po:List ba->Bool
 | []=>true
 |d::ds=>d.KA&&ba.po ds
end
class zD (d:ba):Prop where
 ok:d.KA=true
class uI (ds:List ba):Prop where
 ok:ba.po ds=true
theorem OM{ds:List ba}(h: ∀d∈ds,d.KA=true):ba.po ds=true:=by
 induction ds with
 |nil=>rfl
 |cons d ds ih=>simp only[ba.po,h d (by simp),ih fun x hx=>h x (by simp[hx]),Bool.and_self]
theorem ON{ds es:List ba}(h1:ba.po ds=true)(h2:ba.po es=true):ba.po (ds++es)=true:=by
 induction ds with
 |nil=>exact h2
 |cons d ds ih=>
  simp only[ba.po,aj]at h1;simp only[List.cons_append,ba.po,h1.1,ih h1.2,Bool.and_self]
instance(x:Int):zD (.i x):=⟨rfl⟩
instance(x:Bool):zD (.b x):=⟨rfl⟩
instance(q:ax):zD (.p q):=⟨rfl⟩
instance(sz:Nat)(xs:List ba) [h:uI xs]:zD (.s sz xs):=⟨by simp only[ba.KA,h.ok]⟩
instance(sz:Nat)(xs:List ba) [h:uI xs]:zD (.a sz xs):=⟨by simp only[ba.KA,h.ok]⟩
instance(xs:List ba) [h:uI xs]:zD (.g xs):=⟨by simp only[ba.KA,h.ok]⟩
instance:uI []:=⟨rfl⟩
instance(d:ba)(ds:List ba) [h1:zD d] [h2:uI ds]:uI (d::ds):=⟨by simp only[ba.po,h1.ok,h2.ok,Bool.and_self]⟩
instance(ds es:List ba) [h1:uI ds] [h2:uI es]:uI (ds++es):=⟨ON h1.ok h2.ok⟩
instance{α:Type}(f:α->ba)(xs:List α) [h: ∀x,zD (f x)]:uI (xs.map f):=⟨OM fun d hd=>by obtain⟨x,_,rfl⟩:=bj.1 hd;exact(h x).ok⟩
theorem v8{h h1:aC}: ∀(N:Nat),(∀(d:ba)(v:af)(F:List Nat),SizeOf.sizeOf d<=N->d.KA=true->bP h1 d v F->bP (h++h1.map (cJ.keep h.length)) d (hZ h.length v) (F.map (· +h.length))/\v.cells.all af.f8=true/\((∃cs,v= .agg cs)∨v.f8=true))/\
  (∀(ds:List ba)(vs:List af)(F:List Nat),SizeOf.sizeOf ds<=N->ba.po ds=true->bZ h1 ds vs F->bZ (h++h1.map (cJ.keep h.length)) ds (vs.map (hZ h.length)) (F.map (· +h.length))/\ ∀v∈vs,uG v=true)/\
  ∀(ds:List ba)(vs:List af)(F:List Nat),SizeOf.sizeOf ds<=N->ba.po ds=true->ep h1 ds vs F->ep (h++h1.map (cJ.keep h.length)) ds (vs.map (l6 h.length)) (F.map (· +h.length))/\vs.all af.f8=true:=by
   intro N
   induction N with
   |zero=>
    refine⟨fun d v F hs=>?_,fun ds vs F hs=>?_,fun ds vs F hs=>?_⟩
    ·cases d<;>simp at hs
    ·cases ds<;>simp at hs
    ·cases ds<;>simp at hs
   |succ N ih=>
    refine⟨fun d v F hs hu hp=>?_,fun ds vs F hs hu hp=>?_,fun ds vs F hs hu hp=>?_⟩
    ·cases d with
     |i x=>
      simp only[bP]at hp⊢;obtain⟨rfl,rfl⟩:=hp
      exact⟨⟨rfl,rfl⟩,rfl,.inr rfl⟩
     |b x=>
      simp only[bP]at hp⊢;obtain⟨rfl,rfl⟩:=hp
      exact⟨⟨rfl,rfl⟩,rfl,.inr rfl⟩
     |p q=>
      simp only[bP]at hp⊢;have:=(vZ (h:=h) _).1 q v F (aB _) hp;obtain⟨g1,g2,cs,rfl⟩:=this
      exact⟨g1,g2,.inl ⟨cs,rfl⟩⟩
     |s sz xs=>
      simp only[bP]at hp⊢;rcases hp with⟨rfl,rfl,rfl|rfl⟩|⟨id,vs,Fs,rfl,h5,h6,rfl⟩
      ·exact⟨.inl ⟨rfl,rfl,.inl rfl⟩,rfl,.inr rfl⟩
      ·exact⟨.inl ⟨rfl,rfl,.inr rfl⟩,rfl,.inr rfl⟩
      ·obtain⟨g1,g2⟩:=ih.2.1 xs vs Fs (by simp at hs;omega) (by simpa only[ba.KA]using hu) h6
       exact⟨.inr ⟨id+h.length,_,_,rfl,by rw[m6 h5,rD g2],g1,by simp⟩,rfl,.inr rfl⟩
     |a sz xs=>
      simp only[bP]at hp⊢;rcases hp with⟨rfl,rfl,rfl⟩|⟨id,vs,Fs,rfl,h5,h6,rfl⟩
      ·exact⟨.inl ⟨rfl,rfl,rfl⟩,rfl,.inr rfl⟩
      ·obtain⟨g1,g2⟩:=ih.2.1 xs vs Fs (by simp at hs;omega) (by simpa only[ba.KA]using hu) h6
       exact⟨.inr ⟨id+h.length,_,_,rfl,by rw[m6 h5,rD g2],g1,by simp⟩,rfl,.inr rfl⟩
     |g ds=>
      simp only[bP]at hp⊢;obtain⟨vs,rfl,h2⟩:=hp;obtain⟨g1,g2⟩:=ih.2.2 ds vs F (by simp at hs;omega) (by simpa only[ba.KA]using hu) h2
      exact⟨⟨_,rfl,g1⟩,g2,.inl ⟨_,rfl⟩⟩
     |v x=>simp only[ba.KA]at hu;cases hu
    ·cases ds with
     |nil=>simp only[bZ]at hp⊢;obtain⟨rfl,rfl⟩:=hp;exact⟨⟨rfl,rfl⟩,by simp⟩
     |cons p ps=>
      simp only[bZ]at hp⊢;obtain⟨v,eo,F1,F2,rfl,rfl,h1,h2⟩:=hp;simp at hs;simp only[ba.po,aj]at hu;obtain⟨g1,g2,g5⟩:=ih.1 p v F1 (by omega) hu.1 h1;obtain⟨g3,g4⟩:=ih.2.1 ps eo F2 (by omega) hu.2 h2;refine⟨⟨_,_,_,_,rfl,by simp,g1,g3⟩,fun w hw=>?_⟩;rcases aW.1 hw with rfl|hw
      ·exact IM g5 g2
      ·exact g4 w hw
    ·cases ds with
     |nil=>simp only[ep]at hp⊢;obtain⟨rfl,rfl⟩:=hp;exact⟨⟨rfl,rfl⟩,by simp⟩
     |cons p ps=>
      simp only[ep]at hp⊢;obtain⟨v,eo,F1,F2,rfl,rfl,h1,h2⟩:=hp;simp at hs;simp only[ba.po,aj]at hu;obtain⟨g1,g2,g5⟩:=ih.1 p v F1 (by omega) hu.1 h1;obtain⟨g3,g4⟩:=ih.2.2 ps eo F2 (by omega) hu.2 h2;exact⟨⟨_,_,_,_,by rw[mC g5,bd],by simp,g1,g3⟩,by simp[g2,g4]⟩
def kC(pr:bL)(f:FuncId)(args:List af)(d:ba):Prop:=∃v h1 F,call (du pr) f args []=some (.ret v h1)/\bP h1 d v F/\F.Nodup
theorem Fm{n:Nat}{v:af}(h:(∃cs,v= .agg cs)∨v.f8=true):pQ n v=hZ n v:=by
 rcases h with⟨cs,rfl⟩|h
 ·rfl
 ·cases v<;>first|rfl|(simp[af.f8,af.isScalar]at h)
theorem KB{v:af}(h:(∃cs,v= .agg cs)∨v.f8=true)(hk:v.cells.all af.f8=true):v.clean=true:=by
 rcases h with⟨cs,rfl⟩|h
 ·exact hk
 ·exact tw h
theorem kC.at{pr:bL}{f:FuncId}{args cH:List af}{d:ba} [hu:zD d]{h:aC}(hr:kC pr f cH d)(hM:fF f=Am.Mode.N)(hs:cj h args=some cH):
  ∃v hh F,bN (du pr) (call (du pr)) f args h=some (.ret v hh)/\h <+: hh/\bP hh d v F/\F.Nodup/\ ∀id∈F,h.length<=id:=by
   obtain⟨v,h1,F,hc,ho,hn⟩:=hr;obtain⟨g1,g2,g3⟩:=(v8 (h:=h) _).1 d v F (aB _) hu.ok ho;have hm:(du pr).M f= .N:=hM;refine⟨hZ h.length v,h++h1.map (cJ.keep h.length),F.map (· +h.length),?_,List.prefix_append _ _,g1,jX _ hn,fun id cq=>?_⟩
   ·unfold bN;simp only[hm,hs,hc,KB g3 g2,if_true,Fm g3]
   ·obtain⟨y,_,rfl⟩:=bj.1 cq;omega
def lu(pr:bL)(f:FuncId)(args:List af)(ds:List ba):Prop:=∃vs h1 F,call (du pr) f args []=some (.ret (.dX vs) h1)/\bZ h1 ds vs F/\F.Nodup
theorem Fo{vs:List af}(h: ∀v∈vs,uG v=true):(af.dX vs).clean=true:=by
 show vs.all _=true;rw[aG];intro v hv;have:=h v hv;cases v<;>exact this
theorem lu.at{pr:bL}{f:FuncId}{args cH:List af}{ds:List ba} [hu:uI ds]{h:aC}(hr:lu pr f cH ds)(hM:fF f=Am.Mode.N)(hs:cj h args=some cH):
  ∃vs hh F,bN (du pr) (call (du pr)) f args h=some (.ret (.dX vs) hh)/\h <+: hh/\bZ hh ds vs F/\F.Nodup/\ ∀id∈F,h.length<=id:=by
   obtain⟨vs,h1,F,hc,ho,hn⟩:=hr;obtain⟨g1,g2⟩:=(v8 (h:=h) _).2.1 ds vs F (aB _) hu.ok ho;have hm:(du pr).M f= .N:=hM;refine⟨vs.map (hZ h.length),h++h1.map (cJ.keep h.length),F.map (· +h.length),?_,List.prefix_append _ _,g1,jX _ hn,fun id cq=>?_⟩
   ·unfold bN;simp only[hm,hs,hc,Fo g2,if_true];rfl
   ·obtain⟨y,_,rfl⟩:=bj.1 cq;omega
def _root_.Go.Am.Chunk.cU(d:ba)(v:af)(F:List Nat):Chunk:=⟨F,fun h=>bP h d v F,fun h h' hp hf=>bP.frame hp hf,fun h hp=>bP.lt hp⟩
def _root_.Go.Am.Chunk.dy(ds:List ba)(vs:List af)(F:List Nat):Chunk:=⟨F,fun h=>bZ h ds vs F,fun h h' hp hf=>bZ.frame hp hf,fun h hp=>bZ.lt hp⟩
set_option maxRecDepth 100000 in
theorem KC{pr:bL}(hp:bV pr){f:FuncId}{args:List af}{d:ba}(hn:plain f=true)(hw:Fe (du pr) f args [] (fun r=>∃v h F,r= .ret v h/\bP h d v F/\F.Nodup)):kC pr f args d:=by
 obtain⟨r,hr,v,h,F,rfl,h1,h2⟩:=lq (hp.out f hn) hw;exact⟨v,h,F,hr,h1,h2⟩
set_option maxRecDepth 100000 in
theorem Db{pr:bL}(hp:bV pr){f:FuncId}{args:List af}{ds:List ba}(hn:plain f=true)(hw:Fe (du pr) f args [] (fun r=>∃vs h F,r= .ret (.dX vs) h/\bZ h ds vs F/\F.Nodup)):lu pr f args ds:=by
 obtain⟨r,hr,vs,h,F,rfl,h1,h2⟩:=lq (hp.out f hn) hw;exact⟨vs,h,F,hr,h1,h2⟩
theorem IN{h:aC}{xs:List Int}{v:af}{F:List Nat}:i7 i64 1 h xs v F↔bP h (.s 1 (xs.map ba.i)) v F:=by
 have key: ∀(xs:List Int)(vs:List af)(F:List Nat),bZ h (xs.map ba.i) vs F↔vs=xs.map i64/\F=[]:=by
  intro xs
  induction xs with
  |nil=>intro vs F;simp only[List.map_nil,bZ]
  |cons x xs ih=>
   intro vs F;simp only[aM,bZ,bP];constructor
   ·rintro ⟨v,eo,F1,F2,rfl,rfl,⟨rfl,rfl⟩,h2⟩
    obtain⟨rfl,rfl⟩:=(ih _ _).1 h2;exact⟨rfl,rfl⟩
   ·rintro ⟨rfl,rfl⟩
    exact⟨_,_,[],[],rfl,rfl,⟨rfl,rfl⟩,(ih _ _).2 ⟨rfl,rfl⟩⟩
 simp only[i7,bP];constructor
 ·rintro (⟨rfl,rfl,hv⟩|⟨id,rfl,h2,rfl⟩)
  ·exact .inl ⟨rfl,rfl,hv⟩
  ·exact .inr ⟨id,_,[],by simp,h2,(key _ _ _).2 ⟨rfl,rfl⟩,rfl⟩
 ·rintro (⟨h1,rfl,hv⟩|⟨id,vs,Fs,rfl,h2,h3,rfl⟩)
  ·exact .inl ⟨by simpa using h1,rfl,hv⟩
  ·obtain⟨rfl,rfl⟩:=(key _ _ _).1 h3;exact .inr ⟨id,by simp,h2,rfl⟩
end Go.Proofs.YtfepbikckfehlaaGreat
set_option maxHeartbeats 4000000
namespace Go.Proofs.YtfepbikckfehlaaGreat
open Go Go.Am
variable{pr:bL}(hp:bV pr)
set_option maxRecDepth 100000
def ja(xs:List Cell)(wide:Int):Bool:=xs.all (fun c=>d9 c wide)&&(decide (1<=xs.length)&&decide (xs.length<=6))
theorem pt(hp:bV pr)(xs:List Cell)(wide:Int)(hl:xs.length<=1048576):dm pr 123 [.sl (xs.map Cell.enc),i64 wide] (.bool (ja xs wide)):=by
 refine bY hp rfl rfl ?_;conv=>whnf
 refine dJ (fun m st=>∃j:Nat,j+m=xs.length/\st.tm 0= .sl (xs.map Cell.enc)/\st.tm 1=i64 wide/\st.tm 5=i64 j/\st.hp=[]/\xs.all (fun c=>d9 c wide)=(xs.drop j).all (fun c=>d9 c wide)) (fun m st hI=>?_) (xs.length) _ ⟨0,by simp,(by first|kernel_rfl|rfl|simp),(by first|kernel_rfl|rfl|simp),(by first|kernel_rfl|rfl|simp),(by first|kernel_rfl|rfl|simp),(by first|rfl|simp)⟩;obtain⟨j,hj,e0,e1,e5,hh,aD⟩:=hI;obtain⟨tm,hq⟩:=st;simp only at e0 e1 e5 hh;subst hh;rw[show tm=eU (eU (eU tm 0 (.sl (xs.map Cell.enc))) 1 (i64 wide)) 5 (i64 j) by rw[aP e0,aP e1,aP e5]];clear e0 e1 e5;conv=>whnf
 refine ae (fun h1=>?_) (fun h1=>?_)
 ·have bq:j<xs.length:=by simpa using h1
  rw[ar bq,List.all_cons]at aD;conv=>whnf
  refine⟨(xs[j]).enc,by simp[bq],by omega,rfl,?_⟩;conv=>whnf
  refine⟨_,sg hp xs[j] wide _,?_⟩;conv=>whnf
  refine ae (fun h2=>?_) (fun h2=>?_)
  ·conv=>whnf
   exact⟨m-1,by omega,j+1,by omega,rfl,rfl,aQ j (by omega),rfl,by rw[aD,h2];rfl⟩
  ·conv=>whnf
   exact bo (by simp[ja,aD,h2])
 ·have bq:j=xs.length:=by have: ¬j<xs.length:=by simpa using h1
                          omega
  subst bq;rw[aL]at aD;conv=>whnf
  iterate 3
   all_goals(try(conv=>whnf))
   all_goals(first|(refine ae (fun hb=>?_) (fun hb=>?_))|skip)
  all_goals exact bo (by first|(simp_all[ja];done)|(simp_all[ja];omega)|(simp_all[ja];intros;omega))
def jJ(pre:List Int)(wide:Int):List Int->Bool
 | []=>true
 |x::xs=>col x wide&&(!(pre.contains x)&&jJ (pre++[x]) wide xs)
def dY(xs:List Int)(wide:Int):Bool:=jJ [] wide xs&&decide (xs.length<6)
theorem Bf{xs:List Int}{k:Nat}{x:Int}(h:k<xs.length):(xs.drop k).contains x=(xs[k]==x||(xs.drop (k+1)).contains x):=by
 rw[ar h,List.contains_cons,BEq.comm]
theorem lM(hp:bV pr)(xs:List Int)(wide:Int)(hl:xs.length<=1048576):dm pr 125 [.sl (xs.map i64),i64 wide] (.bool (dY xs wide)):=by
 refine bY hp rfl rfl ?_;conv=>whnf
 refine dJ (fun m st=>∃j:Nat,j+m=xs.length/\st.tm 0= .sl (xs.map i64)/\st.tm 1=i64 wide/\st.tm 5=i64 j/\st.hp=[]/\jJ [] wide xs=jJ (xs.take j) wide (xs.drop j)) (fun m st hI=>?_) (xs.length) _ ⟨0,by simp,(by first|kernel_rfl|rfl|simp),(by first|kernel_rfl|rfl|simp),(by first|kernel_rfl|rfl|simp),(by first|kernel_rfl|rfl|simp),(by first|rfl|simp)⟩;obtain⟨j,hj,e0,e1,e5,hh,aD⟩:=hI;obtain⟨tm,hq⟩:=st;simp only at e0 e1 e5 hh;subst hh;rw[show tm=eU (eU (eU tm 0 (.sl (xs.map i64))) 1 (i64 wide)) 5 (i64 j) by rw[aP e0,aP e1,aP e5]];clear e0 e1 e5;conv=>whnf
 refine ae (fun h1=>?_) (fun h1=>?_)
 ·have bq:j<xs.length:=by simpa using h1
  have hjg:(xs.map i64)[((j:Nat):Int).toNat]?=some (i64 xs[j]):=by simp[bq]
  rw[ar bq]at aD;simp only[jJ]at aD;conv=>whnf
  refine⟨i64 xs[j],hjg,by omega,rfl,?_⟩;conv=>whnf
  refine⟨_,jz hp xs[j] wide _,?_⟩;conv=>whnf
  refine ae (fun h2=>?_) (fun h2=>?_)
  ·rw[h2,aX]at aD;conv=>whnf
   refine dJ (fun m' st=>∃k:Nat,k+m'=j/\st.tm 0= .sl (xs.map i64)/\st.tm 1=i64 wide/\st.tm 5=i64 (j:Nat)/\st.tm 6=i64 (k:Nat)/\st.hp=[]/\(xs.take j).contains xs[j]=((xs.take j).drop k).contains xs[j]) (fun m' st hI=>?_) j _ ⟨0,by omega,rfl,rfl,rfl,rfl,rfl,rfl⟩;obtain⟨k,hk,e0,e1,e5,e6,hh,Fq⟩:=hI;obtain⟨tm,hq⟩:=st;simp only at e0 e1 e5 e6 hh;subst hh;rw[show tm=eU (eU (eU (eU tm 0 (.sl (xs.map i64))) 1 (i64 wide)) 5 (i64 (j:Nat))) 6 (i64 (k:Nat)) by rw[aP e0,aP e1,aP e5,aP e6]];clear e0 e1 e5 e6;conv=>whnf
   refine ae (fun h3=>?_) (fun h3=>?_)
   ·have QE:k<j:=by simpa using h3
    have hkg:(xs.map i64)[((k:Nat):Int).toNat]?=some (i64 xs[k]):=by simp[show k<xs.length by omega]
    have hkt:k<(xs.take j).length:=by simp;omega
    rw[Bf hkt]at Fq;have ji:(xs.take j)[k]=xs[k]:=by simp
    rw[ji]at Fq;conv=>whnf
    refine⟨i64 xs[k],hkg,by omega,rfl,?_⟩;conv=>whnf
    refine⟨i64 xs[j],hjg,by omega,rfl,?_⟩;conv=>whnf
    refine ae (fun h4=>?_) (fun h4=>?_)
    ·conv=>whnf
     refine bo ?_;rw[h4,Bool.true_or]at Fq;rw[dY,aD,Fq];rfl
    ·rw[h4,Bool.false_or]at Fq;conv=>whnf
     exact⟨m'-1,by omega,k+1,by omega,rfl,rfl,rfl,aQ k (by omega),rfl,Fq⟩
   ·have QE:k=j:=by have: ¬k<j:=by simpa using h3
                    omega
    subst QE;conv=>whnf
    have hd:(xs.take k).drop k=[]:=by simp
    rw[hd]at Fq;refine⟨m-1,by omega,k+1,by omega,rfl,rfl,aQ k (by omega),rfl,?_⟩;have tW:xs.take (k+1)=xs.take k++[xs[k]]:=(List.take_append_getElem bq).symm;rw[aD,Fq,tW];rfl
  ·conv=>whnf
   exact bo (by simp[dY,aD,h2])
 ·have bq:j=xs.length:=by have: ¬j<xs.length:=by simpa using h1
                          omega
  subst bq;rw[aL]at aD;simp only[jJ]at aD;conv=>whnf
  refine ae (fun h2=>?_) (fun h2=>?_)
  ·conv=>whnf
   exact bo (by rw[dY,aD,aX];clear aD;simp at h2⊢;omega)
  ·conv=>whnf
   exact bo (by rw[dY,aD,aX];clear aD;simp at h2⊢;omega)
def many:Nat->ax->Nat
 |0,_=>1
 |d+1,p=>1+(p.al.map (many d)).sum
theorem Rn: ∀(N:Nat)(p:ax),SizeOf.sizeOf p<=N-> ∀d,many d p<=p.sz+1:=by
 intro N
 induction N with
 |zero=>intro p h;cases p;simp at h
 |succ N ih=>
  intro p hs d
  cases d with
  |zero=>simp only[many];omega
  |succ d=>
   obtain⟨aw,n,aA,cells,a,b,ao,agg,col,al⟩:=p;simp only[many,ax.al,ax.sz];simp at hs
   have: ∀l:List ax,SizeOf.sizeOf l<=N+1->(l.map (many d)).sum<=l.length+ax.uD l:=by
    intro l
    induction l with
    |nil=>intro _;simp[ax.uD]
    |cons q l VQ=>
     intro h;simp at h;have h1:=ih q (by omega) d;have h2:=VQ (by omega);simp only[aM,List.sum_cons,aJ,ax.uD];omega
   have:=this al (by omega);omega
theorem OO{l:List Nat}{j:Nat}(h:j<l.length):(l.take (j+1)).sum=(l.take j).sum+l[j]:=by
 rw[List.take_add_one,List.sum_append];simp[h]
theorem Ft{l:List Nat}(j:Nat):(l.take j).sum<=l.sum:=by
 have:=congrArg List.sum (List.take_append_drop j l);rw[List.sum_append]at this;omega
theorem Fu(hp:bV pr): ∀(d:Nat)(p:ax),p.small->d<=6->dm pr 95 [p.enc,i64 d] (i64 (many d p)):=by
 intro d
 induction d with
 |zero=>
  intro p fm _;obtain⟨aw,n,aA,cells,a,b,ao,agg,col,al⟩:=p;refine bY hp rfl rfl ?_;conv=>whnf
  refine dJ (fun m st=>st.tm=eU (eU (eU (eU (ko [(ax.mk aw n aA cells a b ao agg col al).enc,i64 0]) 2 (.ptr 0 0 0)) 4 (i64 0)) 5 (i64 1)) 6 (i64 0)/\st.hp=[.box (ax.mk aw n aA cells a b ao agg col al).enc]) (fun m st hI=>?_) 0 _ ⟨rfl,rfl⟩;obtain⟨tm,hq⟩:=st;obtain⟨e1,e2⟩:=hI;simp only at e1 e2;subst e1 e2
  iterate 4
   all_goals(try(conv=>whnf))
   all_goals(first|(refine ae (fun hb=>?_) (fun hb=>?_))|skip)
  all_goals exact⟨_,_,rfl,rfl⟩
 |succ d ih=>
  intro p fm hd;have hle:=Rn _ p (aB _) (d+1);have Zc:=fm;simp only[ax.small]at Zc;obtain⟨aw,n,aA,cells,a,b,ao,agg,col,al⟩:=p;simp only[many,ax.al]at hle⊢;obtain⟨qM,jK,fL,fB⟩:=dK fm;refine bY hp rfl rfl ?_;conv=>whnf
  have cY: ∀j,((al.map (many d)).take j).sum<=(al.map (many d)).sum:=fun j=>Ft j;refine dJ (fun m st=>∃j:Nat,j+m=al.length/\st.tm 1=i64 ((d+1:Nat):Int)/\st.tm 2= .ptr 0 0 0/\st.tm 5=i64 ((1+((al.map (many d)).take j).sum:Nat):Int)/\st.tm 6=i64 (j:Nat)/\st.hp=[.box (ax.mk aw n aA cells a b ao agg col al).enc]) (fun m st hI=>?_) (al.length) _ ⟨0,by simp,(by first|kernel_rfl|rfl|simp),(by first|kernel_rfl|rfl|simp),(by first|kernel_rfl|rfl|simp),(by first|kernel_rfl|rfl|simp),(by first|kernel_rfl|rfl|simp)⟩;obtain⟨j,hj,e1,e2,e5,e6,hh⟩:=hI;obtain⟨tm,hq⟩:=st;simp only at e1 e2 e5 e6 hh;subst hh;rw[show tm=eU (eU (eU (eU tm 1 (i64 ((d+1:Nat):Int))) 2 (.ptr 0 0 0)) 5 (i64 ((1+((al.map (many d)).take j).sum:Nat):Int))) 6 (i64 (j:Nat)) by rw[aP e1,aP e2,aP e5,aP e6]];clear e1 e2 e5 e6;conv=>whnf
  refine ae (fun h1=>?_) (fun h1=>?_)
  ·have bq:j<al.length:=by have:j<(ax.cz al).length:=by simpa using h1
                           rwa [dM]at this
   have Eb:decide (((d+1:Nat):Int)>0)=true:=by simp
   conv=>whnf
   refine eZ Eb ?_;conv=>whnf
   have hq:SizeOf.sizeOf al[j]=SizeOf.sizeOf al[j]:=rfl;have eI:=ih al[j] (fB _ (ay bq)) (by omega);have cx:(ax.cz al)[((j:Nat):Int).toNat]?=some al[j].enc:=by rw[aq,eK,au bq];rfl
   have yh:=OO (l:=al.map (many d)) (j:=j) (by simpa using bq);have Dc:=cY (j+1);rw[List.getElem_map]at yh;generalize al[j]=q at eI cx yh;obtain⟨cd,n',cr,bK,a',b',cm,cX,jb,bU⟩:=q;refine⟨_,cx,by omega,rfl,?_⟩;conv=>whnf
   have hw:af.int .i64 (IntKind.i64.wrap (((d+1:Nat):Int)-1))=i64 (d:Nat):=by
    have:IntKind.i64.wrap (((d+1:Nat):Int)-1)=(d:Nat):=by rw[aY];omega
    rw[this];rfl
   have Zd:dm pr 95 [(ax.mk cd n' cr bK a' b' cm cX jb bU).enc,af.int .i64 (IntKind.i64.wrap (((d+1:Nat):Int)-1))] (i64 (many d (ax.mk cd n' cr bK a' b' cm cX jb bU))):=by rw[hw];exact eI
   refine⟨_,Zd _,?_⟩;conv=>whnf
   refine⟨m-1,by omega,j+1,by omega,rfl,rfl,?_,aQ j (by omega),rfl⟩;refine Eq.trans (b:=af.int .i64 (IntKind.i64.wrap (((1+((al.map (many d)).take j).sum:Nat):Int)+(many d (ax.mk cd n' cr bK a' b' cm cX jb bU):Nat)))) (by kernel_rfl) ?_
   have:IntKind.i64.wrap (((1+((al.map (many d)).take j).sum:Nat):Int)+(many d (ax.mk cd n' cr bK a' b' cm cX jb bU):Nat))=((1+((al.map (many d)).take (j+1)).sum:Nat):Int):=by
    rw[aY];omega
   rw[this];rfl
  ·have bq:j=al.length:=by have: ¬j<(ax.cz al).length:=by simpa using h1
                           rw[dM]at this;omega
   subst bq;conv=>whnf
   exact bR (by congr 2;rw[List.take_of_length_le (by simp)])
theorem OP(b:Int):((0:Int)==b)=(b==0):=by rw[BEq.comm]
theorem mL(hp:bV pr)(n wide:Int):dm pr 211 [i64 n,i64 wide] (.bool (col n wide)):=by
 refine bY hp rfl rfl ?_;have hm: ∀n,n<(if 6<wide then 6 else wide)↔(n<wide/\n<6):=fun n=>by split<;>omega
 iterate 4
  all_goals(try(conv=>whnf))
  all_goals(first|(refine ae (fun hb=>?_) (fun hb=>?_))|skip)
 all_goals exact bo (by simp only[ge_iff_le,decide_eq_true_eq,decide_eq_false_iff_not,hm]at*;first|(simp_all[col];done)|(simp_all[col];omega)|(simp_all[col];intros;omega))
theorem Fv(hp:bV pr)(n:Int):dm pr 68 [i64 n] (.bool (bE n)):=by
 refine bY hp rfl rfl ?_
 iterate 3
  all_goals(try(conv=>whnf))
  all_goals(first|(refine ae (fun hb=>?_) (fun hb=>?_))|skip)
 all_goals exact bo (by first|(simp_all[bE];done)|(simp_all[bE];omega)|(simp_all[bE];intros;omega))
theorem lN(hp:bV pr)(ok:Bool)(w:Int):dm pr 32 [.bool ok,i64 w] (i64 (if ok then w else-1)):=by
 refine bY hp rfl rfl ?_;cases ok
 ·conv=>whnf
  exact bR rfl
 ·conv=>whnf
  exact bR rfl
def Ze:TypeId:=221
def Zf:TypeId:=223
def Zg:TypeId:=225
def OQ(c:Cell):af:=
 if c.aw=1 then .iface Ze (.agg [i64 c.a])
 else if c.aw=2 then .iface Zf (.agg [i64 c.n])
 else if c.aw=3 then .iface Zg (.agg [i64 c.a,i64 c.b])
 else .pO
theorem Bg(hp:bV pr)(c:Cell):dm pr 197 [c.enc] (OQ c):=by
 obtain⟨k,a,b,n⟩:=c;refine bY hp rfl rfl ?_;rcases xx k with rfl|rfl|rfl|⟨h1,h2,h3⟩
 iterate 3
  ·conv=>whnf
   exact⟨_,_,rfl,rfl⟩
 ·iterate 4
   all_goals(try(conv=>whnf))
   all_goals(first|(refine bf h1 ?_)|(refine bf h2 ?_)|(refine bf h3 ?_)|(refine ae (fun hb=>?_) (fun hb=>?_))|skip)
  have:OQ ⟨k,a,b,n⟩= .pO:=by simp_all[OQ]
  rw[this];exact⟨_,_,rfl,rfl⟩
theorem L0(hp:bV pr)(a:Int):dm pr 231 [.agg [i64 a]] (Cell.enc ⟨1,a,0,0⟩):=by
 refine bY hp rfl rfl ?_;conv=>whnf
 exact⟨_,_,rfl,rfl⟩
theorem L1(hp:bV pr)(n:Int):dm pr 235 [.agg [i64 n]] (Cell.enc ⟨2,0,0,n⟩):=by
 refine bY hp rfl rfl ?_;conv=>whnf
 exact⟨_,_,rfl,rfl⟩
theorem L4(hp:bV pr)(a b:Int):dm pr 239 [.agg [i64 a,i64 b]] (Cell.enc ⟨3,a,b,0⟩):=by
 refine bY hp rfl rfl ?_;conv=>whnf
 exact⟨_,_,rfl,rfl⟩
theorem Ro(hp:bV pr)(a w:Int):dm pr 233 [.agg [i64 a],i64 w] (.bool (col a w)):=by
 refine bY hp rfl rfl ?_
 iterate 3
  all_goals(try(conv=>whnf))
  all_goals(first|(refine ae (fun hb=>?_) (fun hb=>?_))|(refine⟨_,mL hp _ _ _,?_⟩)|skip)
 all_goals exact bo hb.symm
theorem Rp(hp:bV pr)(n w:Int):dm pr 237 [.agg [i64 n],i64 w] (.bool (bE n)):=by
 refine bY hp rfl rfl ?_
 iterate 3
  all_goals(try(conv=>whnf))
  all_goals(first|(refine ae (fun hb=>?_) (fun hb=>?_))|(refine⟨_,Fv hp _ _,?_⟩)|skip)
 all_goals exact bo hb.symm
theorem Rq(hp:bV pr)(a b w:Int):dm pr 241 [.agg [i64 a,i64 b],i64 w] (.bool (col a w&&col b w)):=by
 refine bY hp rfl rfl ?_
 iterate 5
  all_goals(try(conv=>whnf))
  all_goals(first|(refine ae (fun hb=>?_) (fun hb=>?_))|(refine⟨_,mL hp _ _ _,?_⟩)|skip)
 all_goals exact bo (by simp_all)
theorem wc(hp:bV pr)(c:Cell)(w:Int):dm pr 196 [c.enc,i64 w] (.bool (d9 c w)):=by
 have h0:=Bg hp c;obtain⟨k,a,b,n⟩:=c;refine bY hp rfl rfl ?_;rcases xx k with rfl|rfl|rfl|⟨h1,h2,h3⟩
 iterate 3
  ·iterate 8
    all_goals(try(conv=>whnf))
    all_goals(first|(refine ae (fun hb=>?_) (fun hb=>?_))|(refine⟨_,h0 _,?_⟩)|(refine⟨_,L0 hp _ _,?_⟩)|(refine⟨_,L1 hp _ _,?_⟩)|(refine⟨_,L4 hp _ _ _,?_⟩)|(refine⟨_,Ro hp _ _ _,?_⟩)|(refine⟨_,Rp hp _ _ _,?_⟩)|(refine⟨_,Rq hp _ _ _ _,?_⟩)|(refine⟨_,_,zB,rfl,?_⟩)|skip)
   all_goals exact bo (by clear h0;(try simp only[OP]at*);first|(simp_all[d9];done)|(simp_all[d9];omega))
 ·have hr:OQ ⟨k,a,b,n⟩= .pO:=by simp_all[OQ]
  rw[hr]at h0;conv=>whnf
  refine⟨_,h0 _,?_⟩;conv=>whnf
  exact bo (by clear h0;simp_all[d9])
theorem L6(hp:bV pr)(t:Test)(wide:Int):dm pr 195 [t.enc,i64 wide] (.bool (jG t wide)):=by
 obtain⟨k,no,l,r⟩:=t;refine bY hp rfl rfl ?_
 iterate 10
  all_goals(try(conv=>whnf))
  all_goals(first|(refine ae (fun hb=>?_) (fun hb=>?_))|(refine⟨_,wc hp l _ _,?_⟩)|(refine⟨_,wc hp r _ _,?_⟩)|skip)
 all_goals exact bo (by first|(simp_all[jG];done)|(simp_all[jG];omega)|(simp_all[jG];intros;omega))
end Go.Proofs.YtfepbikckfehlaaGreat

/- Rows. -/
import Derived.Test.YtfepbikckfehlaaGreatGH21
import Derived.Test.YtfepbikckfehlaaGreatGH13
set_option linter.unusedVariables false
set_option linter.unusedSimpArgs false
set_option maxHeartbeats 4000000
namespace Go.Proofs.YtfepbikckfehlaaGreat
open Go Go.Am
inductive bg where
 |i (x:Int)
 |b (x:Bool)
 |p (q:aA)
 |s (sz:Nat) (xs:List bg)
 |a (sz:Nat) (xs:List bg)
 |g (ds:List bg)
 |v (x:af)
def _root_.Go.Am.af.KG:af->Bool
 | .sl _=>true
 |x=>x.isScalar
def _root_.Go.Am.af.fz:af->Bool
 | .agg cs=>cs.all af.KG
 |x=>x.KG
mutual
def bg.enc:bg->af
 | .i x=>i64 x
 | .b x=>.bool x
 | .p q=>q.enc
 | .s _ xs=>.sl (bg.dv xs)
 | .a _ xs=>.sl (bg.dv xs)
 | .g ds=>.agg (bg.uo ds)
 | .v x=>x
def bg.dv:List bg->List af
 | []=>[]
 |d::ds=>d.enc::bg.dv ds
def bg.uo:List bg->List af
 | []=>[]
 |d::ds=>d.enc.cells++bg.uo ds
end
mutual
def bg.dep:bg->Nat
 | .i _=>1
 | .b _=>1
 | .p q=>2*q.sz+6
 | .s _ xs=>bg.dO xs+2
 | .a _ xs=>bg.dO xs+2
 | .g ds=>bg.dO ds
 | .v _=>1
def bg.dO:List bg->Nat
 | []=>1
 |d::ds=>max d.dep (bg.dO ds)
end
mutual
def bg.fA:bg->Nat
 | .i _=>0
 | .b _=>0
 | .p q=>q.sz
 | .s _ xs=>xs.length+bg.fV xs
 | .a _ xs=>xs.length+bg.fV xs
 | .g ds=>bg.fV ds
 | .v _=>0
def bg.fV:List bg->Nat
 | []=>0
 |d::ds=>d.fA+bg.fV ds
end
theorem My: ∀(N:Nat),(∀d:bg,SizeOf.sizeOf d<=N->d.dep<=3*d.fA+6)/\ ∀ds:List bg,SizeOf.sizeOf ds<=N->bg.dO ds<=3*bg.fV ds+6:=by
 intro N
 induction N with
 |zero=>
  refine⟨fun d hs=>?_,fun ds hs=>?_⟩
  ·cases d<;>simp at hs
  ·cases ds<;>simp at hs
 |succ N ih=>
  refine⟨fun d hs=>?_,fun ds hs=>?_⟩
  ·cases d with
   |i x=>simp[bg.dep]
   |b x=>simp[bg.dep]
   |p q=>simp only[bg.dep,bg.fA];omega
   |s sz xs=>
    have:=ih.2 xs (by simp at hs;omega);simp only[bg.dep,bg.fA]
    cases xs with
    |nil=>simp[bg.dO]
    |cons x xs=>simp only[aak];omega
   |a sz xs=>
    have:=ih.2 xs (by simp at hs;omega);simp only[bg.dep,bg.fA]
    cases xs with
    |nil=>simp[bg.dO]
    |cons x xs=>simp only[aak];omega
   |g ds=>simp only[bg.dep,bg.fA];exact ih.2 ds (by simp at hs;omega)
   |v x=>simp[bg.dep]
  ·cases ds with
   |nil=>simp[bg.dO]
   |cons d ds=>
    simp at hs;have h1:=ih.1 d (by omega);have h2:=ih.2 ds (by omega);simp only[bg.dO,bg.fV];omega
theorem bg.HY{d:bg}: ∀{ds:List bg},d∈ds->d.fA<=bg.fV ds
 |x::xs,h=>by
  rcases aaz.1 h with rfl|h
  ·simp only[bg.fV];omega
  ·have:=bg.HY h;simp only[bg.fV];omega
theorem bg.jW(xs:List bg):bg.dv xs=xs.map bg.enc:=by induction xs with|nil=>rfl|cons x xs ih=>simp[bg.dv,ih]
theorem bg.xX(xs:List Int):bg.dv (xs.map bg.i)=xs.map i64:=by induction xs with|nil=>rfl|cons x xs ih=>simp[bg.dv,bg.enc,ih]
theorem bg.eH(xs:List bg):(bg.dv xs).length=xs.length:=by simp[bg.jW]
mutual
def cq(h:aG):bg->af->List Nat->Prop
 | .i x,v,F=>v=i64 x/\F=[]
 | .b x,v,F=>v= .bool x/\F=[]
 | .p q,v,F=>lh h q v F
 | .s sz xs,v,F=>(xs=[]/\F=[]/\(v= .nil∨v= .sl []))∨ ∃id vs Fs,v= .own id 0 xs.length/\h[id]?=some (.arr sz vs)/\cZ h xs vs Fs/\F=id::Fs
 | .a sz xs,v,F=>(xs=[]/\F=[]/\v= .nil)∨ ∃id vs Fs,v= .own id 0 xs.length/\h[id]?=some (.arr sz vs)/\cZ h xs vs Fs/\F=id::Fs
 | .g ds,v,F=>∃vs,v= .agg vs/\fy h ds vs F
 | .v x,v,F=>v=x/\F=[]/\x.fz=true
def cZ(h:aG):List bg->List af->List Nat->Prop
 | [],vs,F=>vs=[]/\F=[]
 |d::ds,vs,F=>∃v fx F1 F2,vs=v::fx/\F=F1++F2/\cq h d v F1/\cZ h ds fx F2
def fy(h:aG):List bg->List af->List Nat->Prop
 | [],vs,F=>vs=[]/\F=[]
 |d::ds,vs,F=>∃v fx F1 F2,vs=v.cells++fx/\F=F1++F2/\cq h d v F1/\fy h ds fx F2
end
theorem iw{h:aG}: ∀{ds:List bg}{vs:List af}{F:List Nat},cZ h ds vs F->vs.length=ds.length
 | [],vs,F,hp=>by simp only[cZ]at hp;rw[hp.1];rfl
 |p::ps,vs,F,hp=>by
  simp only[cZ]at hp;obtain⟨v,fx,F1,F2,rfl,rfl,_,h2⟩:=hp;simp[iw h2]
theorem lB{h:aG}: ∀{ps qs:List bg}{vs ws:List af}{F G:List Nat},cZ h ps vs F->cZ h qs ws G->cZ h (ps++qs) (vs++ws) (F++G)
 | [],qs,vs,ws,F,G,hp,hq=>by simp only[cZ]at hp;obtain⟨rfl,rfl⟩:=hp;simpa using hq
 |p::ps,qs,vs,ws,F,G,hp,hq=>by
  simp only[cZ]at hp;obtain⟨v,fx,F1,F2,rfl,rfl,h1,h2⟩:=hp;simp only[abD,cZ];exact⟨v,fx++ws,F1,F2++G,rfl,by simp,h1,lB h2 hq⟩
theorem oZ{h:aG}{d:bg}{v:af}{F:List Nat}(ho:cq h d v F):cZ h [d] [v] F:=by
 simp only[cZ];exact⟨v,[],F,[],rfl,by simp,ho,rfl,rfl⟩
theorem o6{h:aG}: ∀{ps qs:List bg}{vs:List af}{F:List Nat},cZ h (ps++qs) vs F-> ∃v1 v2 F1 F2,vs=v1++v2/\F=F1++F2/\cZ h ps v1 F1/\cZ h qs v2 F2
 | [],qs,vs,F,hp=>⟨[],vs,[],F,rfl,rfl,by simp[cZ],by simpa using hp⟩
 |p::ps,qs,vs,F,hp=>by
  simp only[abD,cZ]at hp;obtain⟨v,fx,F1,F2,rfl,rfl,h1,h2⟩:=hp;obtain⟨w1,w2,G1,G2,rfl,rfl,h3,h4⟩:=o6 h2;exact⟨v::w1,w2,F1++G1,G2,rfl,by simp,by simp only[cZ];exact⟨v,w1,F1,G1,rfl,rfl,h1,h3⟩,h4⟩
theorem DG{h h':aG}: ∀(N:Nat),(∀(d:bg)(v:af)(F:List Nat),SizeOf.sizeOf d<=N->cq h d v F->(∀id∈F,h'[id]?=h[id]?)->cq h' d v F)/\
  (∀(ds:List bg)(vs:List af)(F:List Nat),SizeOf.sizeOf ds<=N->cZ h ds vs F->(∀id∈F,h'[id]?=h[id]?)->cZ h' ds vs F)/\
  ∀(ds:List bg)(vs:List af)(F:List Nat),SizeOf.sizeOf ds<=N->fy h ds vs F->(∀id∈F,h'[id]?=h[id]?)->fy h' ds vs F:=by
   intro N
   induction N with
   |zero=>
    refine⟨fun d v F hs=>?_,fun ds vs F hs=>?_,fun ds vs F hs=>?_⟩
    ·cases d<;>simp at hs
    ·cases ds<;>simp at hs
    ·cases ds<;>simp at hs
   |succ N ih=>
    refine⟨fun d v F hs hp hf=>?_,fun ds vs F hs hp hf=>?_,fun ds vs F hs hp hf=>?_⟩
    ·cases d with
     |i x=>simp only[cq]at hp⊢;exact hp
     |b x=>simp only[cq]at hp⊢;exact hp
     |p q=>simp only[cq]at hp⊢;exact lh.frame hp hf
     |s sz xs=>
      simp only[cq]at hp⊢;rcases hp with h3|⟨id,vs,Fs,h4,h5,h6,rfl⟩
      ·exact .inl h3
      ·exact .inr ⟨id,vs,Fs,h4,by rw[hf id (by simp)];exact h5,ih.2.1 xs vs Fs (by simp at hs;omega) h6 fun id dm=>hf id (by simp[dm]),rfl⟩
     |a sz xs=>
      simp only[cq]at hp⊢;rcases hp with h3|⟨id,vs,Fs,h4,h5,h6,rfl⟩
      ·exact .inl h3
      ·exact .inr ⟨id,vs,Fs,h4,by rw[hf id (by simp)];exact h5,ih.2.1 xs vs Fs (by simp at hs;omega) h6 fun id dm=>hf id (by simp[dm]),rfl⟩
     |g ds=>
      simp only[cq]at hp⊢;obtain⟨vs,rfl,h1⟩:=hp
      exact⟨vs,rfl,ih.2.2 ds vs F (by simp at hs;omega) h1 hf⟩
     |v x=>simp only[cq]at hp⊢;exact hp
    ·cases ds with
     |nil=>simp only[cZ]at hp⊢;exact hp
     |cons p ps=>
      simp only[cZ]at hp⊢;obtain⟨v,fx,F1,F2,rfl,rfl,h1,h2⟩:=hp;simp at hs;exact⟨v,fx,F1,F2,rfl,rfl,ih.1 p v F1 (by omega) h1 fun id dm=>hf id (by simp[dm]),ih.2.1 ps fx F2 (by omega) h2 fun id dm=>hf id (by simp[dm])⟩
    ·cases ds with
     |nil=>simp only[fy]at hp⊢;exact hp
     |cons p ps=>
      simp only[fy]at hp⊢;obtain⟨v,fx,F1,F2,rfl,rfl,h1,h2⟩:=hp;simp at hs;exact⟨v,fx,F1,F2,rfl,rfl,ih.1 p v F1 (by omega) h1 fun id dm=>hf id (by simp[dm]),ih.2.2 ps fx F2 (by omega) h2 fun id dm=>hf id (by simp[dm])⟩
theorem cq.frame{h h':aG}{d:bg}{v:af}{F:List Nat}(ho:cq h d v F)(hf: ∀id∈F,h'[id]?=h[id]?):cq h' d v F:=(DG _).1 d v F (aah _) ho hf
theorem cZ.frame{h h':aG}{ds:List bg}{vs:List af}{F:List Nat}(ho:cZ h ds vs F)(hf: ∀id∈F,h'[id]?=h[id]?):cZ h' ds vs F:=(DG _).2.1 ds vs F (aah _) ho hf
theorem QQ{h:aG}: ∀(N:Nat),(∀(d:bg)(v:af)(F:List Nat),SizeOf.sizeOf d<=N->cq h d v F-> ∀id∈F,id<h.length)/\
  (∀(ds:List bg)(vs:List af)(F:List Nat),SizeOf.sizeOf ds<=N->cZ h ds vs F-> ∀id∈F,id<h.length)/\
  ∀(ds:List bg)(vs:List af)(F:List Nat),SizeOf.sizeOf ds<=N->fy h ds vs F-> ∀id∈F,id<h.length:=by
   intro N
   induction N with
   |zero=>
    refine⟨fun d v F hs=>?_,fun ds vs F hs=>?_,fun ds vs F hs=>?_⟩
    ·cases d<;>simp at hs
    ·cases ds<;>simp at hs
    ·cases ds<;>simp at hs
   |succ N ih=>
    refine⟨fun d v F hs hp=>?_,fun ds vs F hs hp=>?_,fun ds vs F hs hp=>?_⟩
    ·cases d with
     |i x=>simp only[cq]at hp;rw[hp.2];simp
     |b x=>simp only[cq]at hp;rw[hp.2];simp
     |p q=>simp only[cq]at hp;exact lh.lt hp
     |s sz xs=>
      simp only[cq]at hp;rcases hp with⟨_,rfl,_⟩|⟨id,vs,Fs,h4,h5,h6,rfl⟩
      ·simp
      ·intro i hi;rcases aaz.1 hi with rfl|hi
       ·exact ib h5
       ·exact ih.2.1 xs vs Fs (by simp at hs;omega) h6 i hi
     |a sz xs=>
      simp only[cq]at hp;rcases hp with⟨_,rfl,_⟩|⟨id,vs,Fs,h4,h5,h6,rfl⟩
      ·simp
      ·intro i hi;rcases aaz.1 hi with rfl|hi
       ·exact ib h5
       ·exact ih.2.1 xs vs Fs (by simp at hs;omega) h6 i hi
     |g ds=>
      simp only[cq]at hp;obtain⟨vs,rfl,h1⟩:=hp
      exact ih.2.2 ds vs F (by simp at hs;omega) h1
     |v x=>simp only[cq]at hp;rw[hp.2.1];simp
    ·cases ds with
     |nil=>simp only[cZ]at hp;rw[hp.2];simp
     |cons p ps=>
      simp only[cZ]at hp;obtain⟨v,fx,F1,F2,rfl,rfl,h1,h2⟩:=hp;simp at hs;intro id dm;rcases aaS.1 dm with dm|dm
      ·exact ih.1 p v F1 (by omega) h1 id dm
      ·exact ih.2.1 ps fx F2 (by omega) h2 id dm
    ·cases ds with
     |nil=>simp only[fy]at hp;rw[hp.2];simp
     |cons p ps=>
      simp only[fy]at hp;obtain⟨v,fx,F1,F2,rfl,rfl,h1,h2⟩:=hp;simp at hs;intro id dm;rcases aaS.1 dm with dm|dm
      ·exact ih.1 p v F1 (by omega) h1 id dm
      ·exact ih.2.2 ps fx F2 (by omega) h2 id dm
theorem cq.lt{h:aG}{d:bg}{v:af}{F:List Nat}(ho:cq h d v F): ∀id∈F,id<h.length:=(QQ _).1 d v F (aah _) ho
theorem cZ.lt{h:aG}{ds:List bg}{vs:List af}{F:List Nat}(ho:cZ h ds vs F): ∀id∈F,id<h.length:=(QQ _).2.1 ds vs F (aah _) ho
theorem HZ{α β:Type}(f:α->Option β): ∀(xs ys:List α){us ws:List β},di f xs=some us->di f ys=some ws->di f (xs++ys)=some (us++ws)
 | [],ys,us,ws,h1,h2=>by simp only[di,Option.some.injEq]at h1;subst h1;exact h2
 |x::xs,ys,us,ws,h1,h2=>by
  simp only[di]at h1
  cases e1:f x with
  |none=>rw[e1]at h1;simp at h1
  |some u=>
   rw[e1]at h1
   cases e2:di f xs with
   |none=>rw[e2]at h1;simp at h1
   |some us'=>
    rw[e2]at h1;simp only[Option.some.injEq]at h1;subst h1;simp only[abD,di,e1,HZ f xs ys e2 h2]
theorem QR{h:aG}{q:aA}{v:af}{F:List Nat}(ho:lh h q v F): ∃cs,v= .agg cs:=by
 obtain⟨au,n,aD,cells,a,b,aq,agg,col,ao⟩:=q;rw[lX]at ho;obtain⟨C,K,D,Fc,Fk,Fd,rfl,_⟩:=ho;exact⟨_,rfl⟩
theorem tR(q:aA): ∃cs,q.enc= .agg cs:=by
 obtain⟨au,n,aD,cells,a,b,aq,agg,col,ao⟩:=q;exact⟨_,rfl⟩
theorem Bc{h:aG}{x:af}(hx:x.KG=true)(n:Nat):cI h (n+1) x=some x:=by
 cases x<;>first|rfl|(simp[af.KG,af.isScalar]at hx)
theorem DH{h:aG}: ∀{xs:List af}(hx:xs.all af.KG=true)(n:Nat),di (cI h (n+1)) xs=some xs
 | [],_,_=>rfl
 |x::xs,hx,n=>by
  simp only[abi,xz]at hx;simp only[di,Bc hx.1 n,DH hx.2 n]
theorem wE{h:aG}: ∀(N:Nat),(∀(d:bg)(v:af)(F:List Nat)(n:Nat),SizeOf.sizeOf d<=N->cq h d v F->d.dep<=n->cI h (n+1) v=some d.enc/\di (cI h n) v.cells=some d.enc.cells)/\
  (∀(ds:List bg)(vs:List af)(F:List Nat)(n:Nat),SizeOf.sizeOf ds<=N->cZ h ds vs F->bg.dO ds<=n->di (cI h (n+1)) vs=some (bg.dv ds))/\
  ∀(ds:List bg)(vs:List af)(F:List Nat)(n:Nat),SizeOf.sizeOf ds<=N->fy h ds vs F->bg.dO ds<=n->di (cI h n) vs=some (bg.uo ds):=by
   intro N
   induction N with
   |zero=>
    refine⟨fun d v F n hs=>?_,fun ds vs F n hs=>?_,fun ds vs F n hs=>?_⟩
    ·cases d<;>simp at hs
    ·cases ds<;>simp at hs
    ·cases ds<;>simp at hs
   |succ N ih=>
    refine⟨fun d v F n hs hp hn=>?_,fun ds vs F n hs hp hn=>?_,fun ds vs F n hs hp hn=>?_⟩
    ·cases d with
     |i x=>
      simp only[cq]at hp;obtain⟨rfl,_⟩:=hp;simp only[bg.dep]at hn;obtain⟨n,rfl⟩: ∃k,n=k+1:=⟨n-1,by omega⟩
      exact⟨rfl,rfl⟩
     |b x=>
      simp only[cq]at hp;obtain⟨rfl,_⟩:=hp;simp only[bg.dep]at hn;obtain⟨n,rfl⟩: ∃k,n=k+1:=⟨n-1,by omega⟩
      exact⟨rfl,rfl⟩
     |p q=>
      simp only[cq]at hp;simp only[bg.dep]at hn;have e:cI h (n+1) v=some q.enc:=(HS _).1 q v F (n+1) (aah _) hp (by omega);refine⟨e,?_⟩;obtain⟨cs,rfl⟩:=QR hp;obtain⟨Yw,uJ⟩:=tR q;have e2:(di (cI h n) cs).map af.agg=some q.enc:=e;rw[uJ]at e2;simp only[bg.enc,uJ,af.cells]
      cases e3:di (cI h n) cs with
      |none=>rw[e3]at e2;simp at e2
      |some us=>rw[e3]at e2;simpa using e2
     |s sz xs=>
      simp only[cq]at hp;simp only[bg.dep]at hn;obtain⟨n,rfl⟩: ∃k,n=k+2:=⟨n-2,by omega⟩;rcases hp with⟨rfl,_,rfl|rfl⟩|⟨id,vs,Fs,rfl,h5,h6,_⟩
      ·exact⟨rfl,rfl⟩
      ·exact⟨rfl,rfl⟩
      ·have hl:=iw h6;have e1:=ih.2.1 xs vs Fs (n+1) (by simp at hs;omega) h6 (by omega);have e2:=ih.2.1 xs vs Fs n (by simp at hs;omega) h6 (by omega);refine⟨od h5 hl.symm e1,?_⟩;have e3:=od h5 hl.symm e2
       simp only[af.cells,di,e3,bg.enc]
     |a sz xs=>
      simp only[cq]at hp;simp only[bg.dep]at hn;obtain⟨n,rfl⟩: ∃k,n=k+2:=⟨n-2,by omega⟩;rcases hp with⟨rfl,_,rfl⟩|⟨id,vs,Fs,rfl,h5,h6,_⟩
      ·exact⟨rfl,rfl⟩
      ·have hl:=iw h6;have e1:=ih.2.1 xs vs Fs (n+1) (by simp at hs;omega) h6 (by omega);have e2:=ih.2.1 xs vs Fs n (by simp at hs;omega) h6 (by omega);refine⟨od h5 hl.symm e1,?_⟩;have e3:=od h5 hl.symm e2
       simp only[af.cells,di,e3,bg.enc]
     |g ds=>
      simp only[cq]at hp;simp only[bg.dep]at hn;obtain⟨vs,rfl,h1⟩:=hp;have e1:=ih.2.2 ds vs F n (by simp at hs;omega) h1 (by omega);refine⟨?_,?_⟩
      ·show(di (cI h n) vs).map af.agg=_;rw[e1];rfl
      ·simp only[af.cells,bg.enc]
       exact e1
     |v x=>
      simp only[cq]at hp;obtain⟨rfl,_,hx⟩:=hp;simp only[bg.dep]at hn;obtain⟨n,rfl⟩: ∃k,n=k+1:=⟨n-1,by omega⟩
      have key:v.KG=true->cI h (n+1+1) v=some v/\di (cI h (n+1)) v.cells=some v.cells:=fun h1=>⟨Bc h1 _,by
       have e:v.cells=[v]:=by cases v<;>first|rfl|(simp[af.KG,af.isScalar]at h1)
       rw[e];simp only[di,Bc h1 n]⟩
      cases v with
      |agg cs=>
       have e:=DH (h:=h) (show cs.all af.KG=true from hx) n;refine⟨?_,e⟩;show(di (cI h (n+1)) cs).map af.agg=_;rw[e]
       rfl
      |_=>exact key hx
    ·cases ds with
     |nil=>simp only[cZ]at hp;rw[hp.1];rfl
     |cons p ps=>
      simp only[cZ]at hp;obtain⟨v,fx,F1,F2,rfl,rfl,h1,h2⟩:=hp;simp at hs;simp only[bg.dO]at hn;simp only[di,(ih.1 p v F1 n (by omega) h1 (by omega)).1,ih.2.1 ps fx F2 n (by omega) h2 (by omega),bg.dv]
    ·cases ds with
     |nil=>simp only[fy]at hp;rw[hp.1];rfl
     |cons p ps=>
      simp only[fy]at hp;obtain⟨v,fx,F1,F2,rfl,rfl,h1,h2⟩:=hp;simp at hs;simp only[bg.dO]at hn;exact HZ _ _ _ (ih.1 p v F1 n (by omega) h1 (by omega)).2 (ih.2.2 ps fx F2 n (by omega) h2 (by omega))
theorem cq.snap{h:aG}{d:bg}{v:af}{F:List Nat}(ho:cq h d v F)(hd:d.dep<=4194303):Am.snap h v=some d.enc:=by
 obtain⟨n,hn⟩: ∃n:Nat,4194304=n+1:=⟨4194303,by decide⟩;unfold Am.snap;rw[hn];exact((wE _).1 d v F n (aah _) ho (by omega)).1
theorem nU{v:af}{n:Nat}(h:(∃cs,v= .agg cs)∨v.iq=true):(jj n v).cells=v.cells.map (nB n):=by
 rcases h with⟨cs,rfl⟩|h
 ·rfl
 ·cases v<;>first|rfl|(simp[af.iq,af.isScalar]at h)
theorem KH{v:af}(h:(∃cs,v= .agg cs)∨v.iq=true)(hk:v.cells.all af.iq=true):wC v=true:=by
 rcases h with⟨cs,rfl⟩|h
 ·exact hk
 ·cases v<;>first|exact h|(simp[af.iq,af.isScalar]at h)
mutual
def bg.Mz:bg->Bool
 | .i _=>true
 | .b _=>true
 | .p _=>true
 | .s _ xs=>bg.qK xs
 | .a _ xs=>bg.qK xs
 | .g ds=>bg.qK ds
 | .v _=>false
def bg.qK:List bg->Bool
 | []=>true
 |d::ds=>d.Mz&&bg.qK ds
end
class Bd (d:bg):Prop where
 ok:d.Mz=true
class wF (ds:List bg):Prop where
 ok:bg.qK ds=true
theorem QS{ds:List bg}(h: ∀d∈ds,d.Mz=true):bg.qK ds=true:=by
 induction ds with
 |nil=>rfl
 |cons d ds ih=>simp only[bg.qK,h d (by simp),ih fun x hx=>h x (by simp[hx]),Bool.and_self]
theorem QT{ds es:List bg}(h1:bg.qK ds=true)(h2:bg.qK es=true):bg.qK (ds++es)=true:=by
 induction ds with
 |nil=>exact h2
 |cons d ds ih=>
  simp only[bg.qK,xz]at h1;simp only[abD,bg.qK,h1.1,ih h1.2,Bool.and_self]
instance(x:Int):Bd (.i x):=⟨rfl⟩
instance(x:Bool):Bd (.b x):=⟨rfl⟩
instance(q:aA):Bd (.p q):=⟨rfl⟩
instance(sz:Nat)(xs:List bg) [h:wF xs]:Bd (.s sz xs):=⟨by simp only[bg.Mz,h.ok]⟩
instance(sz:Nat)(xs:List bg) [h:wF xs]:Bd (.a sz xs):=⟨by simp only[bg.Mz,h.ok]⟩
instance(xs:List bg) [h:wF xs]:Bd (.g xs):=⟨by simp only[bg.Mz,h.ok]⟩
instance:wF []:=⟨rfl⟩
instance(d:bg)(ds:List bg) [h1:Bd d] [h2:wF ds]:wF (d::ds):=⟨by simp only[bg.qK,h1.ok,h2.ok,Bool.and_self]⟩
instance(ds es:List bg) [h1:wF ds] [h2:wF es]:wF (ds++es):=⟨QT h1.ok h2.ok⟩
instance{α:Type}(f:α->bg)(xs:List α) [h: ∀x,Bd (f x)]:wF (xs.map f):=⟨QS fun d hd=>by obtain⟨x,_,rfl⟩:=aaO.1 hd;exact(h x).ok⟩
theorem xY{h h1:aG}: ∀(N:Nat),(∀(d:bg)(v:af)(F:List Nat),SizeOf.sizeOf d<=N->d.Mz=true->cq h1 d v F->cq (h++h1.map (dH.keep h.length)) d (jj h.length v) (F.map (· +h.length))/\v.cells.all af.iq=true/\((∃cs,v= .agg cs)∨v.iq=true))/\
  (∀(ds:List bg)(vs:List af)(F:List Nat),SizeOf.sizeOf ds<=N->bg.qK ds=true->cZ h1 ds vs F->cZ (h++h1.map (dH.keep h.length)) ds (vs.map (jj h.length)) (F.map (· +h.length))/\ ∀v∈vs,wC v=true)/\
  ∀(ds:List bg)(vs:List af)(F:List Nat),SizeOf.sizeOf ds<=N->bg.qK ds=true->fy h1 ds vs F->fy (h++h1.map (dH.keep h.length)) ds (vs.map (nB h.length)) (F.map (· +h.length))/\vs.all af.iq=true:=by
   intro N
   induction N with
   |zero=>
    refine⟨fun d v F hs=>?_,fun ds vs F hs=>?_,fun ds vs F hs=>?_⟩
    ·cases d<;>simp at hs
    ·cases ds<;>simp at hs
    ·cases ds<;>simp at hs
   |succ N ih=>
    refine⟨fun d v F hs hu hp=>?_,fun ds vs F hs hu hp=>?_,fun ds vs F hs hu hp=>?_⟩
    ·cases d with
     |i x=>
      simp only[cq]at hp⊢;obtain⟨rfl,rfl⟩:=hp
      exact⟨⟨rfl,rfl⟩,rfl,.inr rfl⟩
     |b x=>
      simp only[cq]at hp⊢;obtain⟨rfl,rfl⟩:=hp
      exact⟨⟨rfl,rfl⟩,rfl,.inr rfl⟩
     |p q=>
      simp only[cq]at hp⊢;have:=(xV (h:=h) _).1 q v F (aah _) hp;obtain⟨g1,g2,cs,rfl⟩:=this
      exact⟨g1,g2,.inl ⟨cs,rfl⟩⟩
     |s sz xs=>
      simp only[cq]at hp⊢;rcases hp with⟨rfl,rfl,rfl|rfl⟩|⟨id,vs,Fs,rfl,h5,h6,rfl⟩
      ·exact⟨.inl ⟨rfl,rfl,.inl rfl⟩,rfl,.inr rfl⟩
      ·exact⟨.inl ⟨rfl,rfl,.inr rfl⟩,rfl,.inr rfl⟩
      ·obtain⟨g1,g2⟩:=ih.2.1 xs vs Fs (by simp at hs;omega) (by simpa only[bg.Mz]using hu) h6
       exact⟨.inr ⟨id+h.length,_,_,rfl,by rw[oS h5,sX g2],g1,by simp⟩,rfl,.inr rfl⟩
     |a sz xs=>
      simp only[cq]at hp⊢;rcases hp with⟨rfl,rfl,rfl⟩|⟨id,vs,Fs,rfl,h5,h6,rfl⟩
      ·exact⟨.inl ⟨rfl,rfl,rfl⟩,rfl,.inr rfl⟩
      ·obtain⟨g1,g2⟩:=ih.2.1 xs vs Fs (by simp at hs;omega) (by simpa only[bg.Mz]using hu) h6
       exact⟨.inr ⟨id+h.length,_,_,rfl,by rw[oS h5,sX g2],g1,by simp⟩,rfl,.inr rfl⟩
     |g ds=>
      simp only[cq]at hp⊢;obtain⟨vs,rfl,h2⟩:=hp;obtain⟨g1,g2⟩:=ih.2.2 ds vs F (by simp at hs;omega) (by simpa only[bg.Mz]using hu) h2
      exact⟨⟨_,rfl,g1⟩,g2,.inl ⟨_,rfl⟩⟩
     |v x=>simp only[bg.Mz]at hu;cases hu
    ·cases ds with
     |nil=>simp only[cZ]at hp⊢;obtain⟨rfl,rfl⟩:=hp;exact⟨⟨rfl,rfl⟩,by simp⟩
     |cons p ps=>
      simp only[cZ]at hp⊢;obtain⟨v,fx,F1,F2,rfl,rfl,h1,h2⟩:=hp;simp at hs;simp only[bg.qK,xz]at hu;obtain⟨g1,g2,g5⟩:=ih.1 p v F1 (by omega) hu.1 h1;obtain⟨g3,g4⟩:=ih.2.1 ps fx F2 (by omega) hu.2 h2;refine⟨⟨_,_,_,_,rfl,by simp,g1,g3⟩,fun w hw=>?_⟩;rcases aaz.1 hw with rfl|hw
      ·exact KH g5 g2
      ·exact g4 w hw
    ·cases ds with
     |nil=>simp only[fy]at hp⊢;obtain⟨rfl,rfl⟩:=hp;exact⟨⟨rfl,rfl⟩,by simp⟩
     |cons p ps=>
      simp only[fy]at hp⊢;obtain⟨v,fx,F1,F2,rfl,rfl,h1,h2⟩:=hp;simp at hs;simp only[bg.qK,xz]at hu;obtain⟨g1,g2,g5⟩:=ih.1 p v F1 (by omega) hu.1 h1;obtain⟨g3,g4⟩:=ih.2.2 ps fx F2 (by omega) hu.2 h2;exact⟨⟨_,_,_,_,by rw[nU g5,aaD],by simp,g1,g3⟩,by simp[g2,g4]⟩
def lZ(pr:bW)(f:FuncId)(args:List af)(d:bg):Prop:=∃v h1 F,call (dZ pr) f args []=some (.ret v h1)/\cq h1 d v F/\F.Nodup
theorem Ia{n:Nat}{v:af}(h:(∃cs,v= .agg cs)∨v.iq=true):q8 n v=jj n v:=by
 rcases h with⟨cs,rfl⟩|h
 ·rfl
 ·cases v<;>first|rfl|(simp[af.iq,af.isScalar]at h)
theorem MA{v:af}(h:(∃cs,v= .agg cs)∨v.iq=true)(hk:v.cells.all af.iq=true):v.clean=true:=by
 rcases h with⟨cs,rfl⟩|h
 ·exact hk
 ·exact uW h
theorem lZ.at{pr:bW}{f:FuncId}{args dD:List af}{d:bg} [hu:Bd d]{h:aG}(hr:lZ pr f dD d)(hM:gI f=Am.Mode.N)(hs:dc h args=some dD):
  ∃v hh F,cj (dZ pr) (call (dZ pr)) f args h=some (.ret v hh)/\h <+: hh/\cq hh d v F/\F.Nodup/\ ∀id∈F,h.length<=id:=by
   obtain⟨v,h1,F,hc,ho,hn⟩:=hr;obtain⟨g1,g2,g3⟩:=(xY (h:=h) _).1 d v F (aah _) hu.ok ho;have hm:(dZ pr).M f= .N:=hM;refine⟨jj h.length v,h++h1.map (dH.keep h.length),F.map (· +h.length),?_,List.prefix_append _ _,g1,lA _ hn,fun id dm=>?_⟩
   ·unfold cj;simp only[hm,hs,hc,MA g3 g2,if_true,Ia g3]
   ·obtain⟨y,_,rfl⟩:=aaO.1 dm;omega
def nc(pr:bW)(f:FuncId)(args:List af)(ds:List bg):Prop:=∃vs h1 F,call (dZ pr) f args []=some (.ret (.eT vs) h1)/\cZ h1 ds vs F/\F.Nodup
theorem Ib{vs:List af}(h: ∀v∈vs,wC v=true):(af.eT vs).clean=true:=by
 show vs.all _=true;rw[aaj];intro v hv;have:=h v hv;cases v<;>exact this
theorem nc.at{pr:bW}{f:FuncId}{args dD:List af}{ds:List bg} [hu:wF ds]{h:aG}(hr:nc pr f dD ds)(hM:gI f=Am.Mode.N)(hs:dc h args=some dD):
  ∃vs hh F,cj (dZ pr) (call (dZ pr)) f args h=some (.ret (.eT vs) hh)/\h <+: hh/\cZ hh ds vs F/\F.Nodup/\ ∀id∈F,h.length<=id:=by
   obtain⟨vs,h1,F,hc,ho,hn⟩:=hr;obtain⟨g1,g2⟩:=(xY (h:=h) _).2.1 ds vs F (aah _) hu.ok ho;have hm:(dZ pr).M f= .N:=hM;refine⟨vs.map (jj h.length),h++h1.map (dH.keep h.length),F.map (· +h.length),?_,List.prefix_append _ _,g1,lA _ hn,fun id dm=>?_⟩
   ·unfold cj;simp only[hm,hs,hc,Ib g2,if_true];rfl
   ·obtain⟨y,_,rfl⟩:=aaO.1 dm;omega
def _root_.Go.Am.Chunk.dL(d:bg)(v:af)(F:List Nat):Chunk:=⟨F,fun h=>cq h d v F,fun h h' hp hf=>cq.frame hp hf,fun h hp=>cq.lt hp⟩
def _root_.Go.Am.Chunk.ed(ds:List bg)(vs:List af)(F:List Nat):Chunk:=⟨F,fun h=>cZ h ds vs F,fun h h' hp hf=>cZ.frame hp hf,fun h hp=>cZ.lt hp⟩
set_option maxRecDepth 100000 in
theorem MB{pr:bW}(hp:cF pr){f:FuncId}{args:List af}{d:bg}(hn:plain f=true)(hw:Hm (dZ pr) f args [] (fun r=>∃v h F,r= .ret v h/\cq h d v F/\F.Nodup)):lZ pr f args d:=by
 obtain⟨r,hr,v,h,F,rfl,h1,h2⟩:=mM (hp.out f hn) hw;exact⟨v,h,F,hr,h1,h2⟩
set_option maxRecDepth 100000 in
theorem MC{pr:bW}(hp:cF pr){f:FuncId}{args:List af}{ds:List bg}(hn:plain f=true)(hw:Hm (dZ pr) f args [] (fun r=>∃vs h F,r= .ret (.eT vs) h/\cZ h ds vs F/\F.Nodup)):nc pr f args ds:=by
 obtain⟨r,hr,vs,h,F,rfl,h1,h2⟩:=mM (hp.out f hn) hw;exact⟨vs,h,F,hr,h1,h2⟩
theorem KI{h:aG}{xs:List Int}{v:af}{F:List Nat}:kh i64 1 h xs v F↔cq h (.s 1 (xs.map bg.i)) v F:=by
 have key: ∀(xs:List Int)(vs:List af)(F:List Nat),cZ h (xs.map bg.i) vs F↔vs=xs.map i64/\F=[]:=by
  intro xs
  induction xs with
  |nil=>intro vs F;simp only[abA,cZ]
  |cons x xs ih=>
   intro vs F;simp only[aao,cZ,cq];constructor
   ·rintro ⟨v,fx,F1,F2,rfl,rfl,⟨rfl,rfl⟩,h2⟩
    obtain⟨rfl,rfl⟩:=(ih _ _).1 h2;exact⟨rfl,rfl⟩
   ·rintro ⟨rfl,rfl⟩
    exact⟨_,_,[],[],rfl,rfl,⟨rfl,rfl⟩,(ih _ _).2 ⟨rfl,rfl⟩⟩
 simp only[kh,cq];constructor
 ·rintro (⟨rfl,rfl,hv⟩|⟨id,rfl,h2,rfl⟩)
  ·exact .inl ⟨rfl,rfl,hv⟩
  ·exact .inr ⟨id,_,[],by simp,h2,(key _ _ _).2 ⟨rfl,rfl⟩,rfl⟩
 ·rintro (⟨h1,rfl,hv⟩|⟨id,vs,Fs,rfl,h2,h3,rfl⟩)
  ·exact .inl ⟨by simpa using h1,rfl,hv⟩
  ·obtain⟨rfl,rfl⟩:=(key _ _ _).1 h3;exact .inr ⟨id,by simp,h2,rfl⟩
end Go.Proofs.YtfepbikckfehlaaGreat
set_option maxHeartbeats 4000000
namespace Go.Proofs.YtfepbikckfehlaaGreat
open Go Go.Am
variable{pr:bW}(hp:cF pr)
set_option maxRecDepth 100000
def o7:List Int->List Int->Int
 |x::xs,y::ys=>if x<y then-1 else if y<x then 1 else o7 xs ys
 |xs,ys=>(xs.length:Int)-(ys.length:Int)
theorem tS: ∀(xs ys:List Int),(o7 xs ys==0)=bZ (· == ·) xs ys
 | [],[]=>rfl
 | [],y::ys=>by
  have h:(o7 [] (y::ys)==0)=false:=by simp[o7];omega
  rw[h];rfl
 |x::xs,[]=>by
  have h:(o7 (x::xs) []==0)=false:=by simp[o7];omega
  rw[h];rfl
 |x::xs,y::ys=>by
  simp only[o7,bZ];rw[<-tS xs ys];rcases Int.lt_trichotomy x y with h|h|h
  ·rw[if_pos h];simp;omega
  ·subst h;simp
  ·rw[if_neg (by omega),if_pos h];simp;omega
theorem QU{xs ys:List Int}(h:xs=[]∨ys=[]):o7 xs ys=(xs.length:Int)-(ys.length:Int):=by
 rcases h with rfl|rfl
 ·cases ys<;>rfl
 ·cases xs<;>rfl
theorem xZ(hp:cF pr)(xs ys:List Int)(hx:xs.length<=9223372036854775807)(hy:ys.length<=9223372036854775807)(hl:xs.length<=1000000000):dK pr 73 [.sl (xs.map i64),.sl (ys.map i64)] (i64 (o7 xs ys)):=by
 refine cX hp rfl rfl ?_;conv=>whnf
 refine eD (fun m st=>∃j:Nat,j+m=xs.length/\j<=ys.length/\st.tm 0= .sl (xs.map i64)/\st.tm 1= .sl (ys.map i64)/\st.tm 5=i64 (j:Nat)/\st.hp=[]/\o7 xs ys=o7 (xs.drop j) (ys.drop j)) (fun m st hI=>?_) xs.length _ ⟨0,by simp,by simp,rfl,rfl,rfl,rfl,rfl⟩;obtain⟨j,hj,hjy,e0,e1,e5,hh,aF⟩:=hI;obtain⟨tm,hq⟩:=st;simp only at e0 e1 e5 hh;subst hh;rw[show tm=fX (fX (fX tm 0 (.sl (xs.map i64))) 1 (.sl (ys.map i64))) 5 (i64 (j:Nat)) by rw[aR e0,aR e1,aR e5]];clear e0 e1 e5
 have ir:xs.drop j=[]∨ys.drop j=[]->IntKind.i64.wrap (((xs.map i64).length:Int)-((ys.map i64).length:Int))=o7 xs ys:=fun h=>by
  rw[aF,QU h,aaC];simp;omega
 conv=>whnf
 refine ae (fun h1=>?_) (fun h1=>?_)
 ·have bp:j<xs.length:=by simpa using h1
  conv=>whnf
  refine ae (fun h2=>?_) (fun h2=>?_)
  ·have ss:j<ys.length:=by simpa using h2
   have g1:(xs.map i64)[((j:Nat):Int).toNat]?=some (i64 xs[j]):=by rw[aaa];simp[bp]
   have g2:(ys.map i64)[((j:Nat):Int).toNat]?=some (i64 ys[j]):=by rw[aaa];simp[ss]
   rw[aaf bp,aaf ss]at aF;generalize xs[j]=x at g1 aF;generalize ys[j]=y at g2 aF;conv=>whnf
   refine⟨_,g1,by omega,rfl,?_⟩;conv=>whnf
   refine⟨_,g2,by omega,rfl,?_⟩;conv=>whnf
   refine ae (fun h3=>?_) (fun h3=>?_)
   ·have ZS:x<y:=by simpa using h3
    conv=>whnf
    exact cu (by rw[aF];simp[o7,ZS])
   ·have ZS: ¬x<y:=by simpa using h3
    conv=>whnf
    refine⟨_,g1,by omega,rfl,?_⟩;conv=>whnf
    refine⟨_,g2,by omega,rfl,?_⟩;conv=>whnf
    refine ae (fun h4=>?_) (fun h4=>?_)
    ·have h4':y<x:=by simpa using h4
     conv=>whnf
     exact cu (by rw[aF];simp[o7,ZS,h4'])
    ·have h4': ¬y<x:=by simpa using h4
     conv=>whnf
     exact⟨m-1,by omega,j+1,by omega,by omega,rfl,rfl,aP j (by omega),rfl,by rw[aF];simp[o7,ZS,h4']⟩
  ·have ss:ys.length<=j:=by simpa using h2
   conv=>whnf
   exact cu (ir (.inr (List.drop_eq_nil_of_le ss)))
 ·have bp:xs.length<=j:=by simpa using h1
  conv=>whnf
  exact cu (ir (.inl (List.drop_eq_nil_of_le bp)))
theorem Ic(hp:cF pr)(xs ys:List Int)(hx:xs.length<=1000000000)(hy:ys.length<=1000000000):dK pr 42 [.sl (xs.map i64),.sl (ys.map i64)] (.bool (bZ (· == ·) xs ys)):=by
 have h1:=xZ hp xs ys (by omega) (by omega) hx;refine cX hp rfl rfl ?_;conv=>whnf
 refine⟨_,h1 _,?_⟩;conv=>whnf
 refine ae (fun h2=>?_) (fun h2=>?_)
 ·conv=>whnf
  exact bw (by rw[<-tS];exact h2.symm)
 ·conv=>whnf
  exact bw (by rw[<-tS];exact h2.symm)
abbrev dB:Nat:=1000000000
def o8(r:List Int):Bool:=decide (1<=r.length)&&(decide (r.length<=6)&&r.all bQ)
def fl(a b:List Int):Bool:=decide (o7 a b<0)
def fL(a b:List Int):Bool:=bZ (· == ·) a b
def YO:af:=.func (.func 67) [] []
theorem Wg(hp:cF pr)(n:Int):dK pr 67 [i64 n] (.bool (!bQ n)):=by
 refine ff hp rfl rfl ?_;have S:=aj.nil []
 iterate 3
  all_goals(try(conv=>whnf))
  all_goals(first|(intro iK cp ee bf;replace S:=S.alloc ee bf)|(refine aC (S.row 0 rfl) ?_)|(refine aC (S.row 1 rfl) ?_)|(refine aC (S.row 2 rfl) ?_)|(refine aC (S.row 3 rfl) ?_)|(refine aC (S.row 4 rfl) ?_)|(refine⟨_,rfl,rfl,rfl,.inl ⟨_,S.row 0 rfl,rfl,?_⟩⟩;(conv=>whnf);intro cp bf;replace S:=S.w0 bf)|(refine⟨_,rfl,rfl,rfl,.inl ⟨_,S.row 1 rfl,rfl,?_⟩⟩;(conv=>whnf);intro cp bf;replace S:=S.w1 bf)|(refine⟨_,rfl,rfl,rfl,.inl ⟨_,S.row 2 rfl,rfl,?_⟩⟩;(conv=>whnf);intro cp bf;replace S:=S.w2 bf)|(refine⟨_,rfl,rfl,rfl,.inl ⟨_,S.row 3 rfl,rfl,?_⟩⟩;(conv=>whnf);intro cp bf;replace S:=S.w3 bf)|(refine⟨_,rfl,rfl,rfl,.inl ⟨_,S.row 4 rfl,rfl,?_⟩⟩;(conv=>whnf);intro cp bf;replace S:=S.w4 bf)|(refine ae (fun hb=>?_) (fun hb=>?_))|(refine⟨_,Hs hp n _,?_⟩)|skip)
 all_goals exact br (by simp_all)
theorem KJ(hp:cF pr)(xs:List Int)(hl:xs.length<=dB):dK pr 101 [.sl (xs.map i64),YO] (i64 (oY (fun n=>!bQ n) 0 xs)):=by
 refine ff hp rfl rfl ?_;have S:=aj.nil [];conv=>whnf
 refine iv (fun m tm hp=>∃(j:Nat),j+m=xs.length/\tm 8=i64 (j:Nat)/\(oY (fun n=>!bQ n) 0 xs=oY (fun n=>!bQ n) (j:Nat) (xs.drop j))) (fun m tm hq bG hI=>?_) (xs.length) ⟨0,by simp,(by first|rfl|kernel_rfl|simp),(by simp)⟩;obtain⟨j,hj,e8,aF⟩:=hI;have k0:=bG 0 (by kernel_rfl);conv at k0=>rhs;whnf
 rw[<-aR k0];have k1:=bG 1 (by kernel_rfl);conv at k1=>rhs;whnf
 rw[<-aR k1];have k7:=bG 7 (by kernel_rfl);conv at k7=>rhs;whnf
 rw[<-aR k7];rw[<-aR e8];clear bG k0 k1 k7 e8;have S:aj hq []:=aj.nil hq;conv=>whnf
 refine ae (fun h1=>?_) (fun h1=>?_)
 ·have bp:j<xs.length:=by simpa using h1
  rw[aaf bp]at aF;simp only[oY]at aF;conv=>whnf
  refine⟨i64 xs[j],by simp[bp],by omega,rfl,?_⟩;conv=>whnf
  refine⟨_,Wg hp xs[j] _,?_⟩;conv=>whnf
  refine ae (fun h2=>?_) (fun h2=>?_)
  ·conv=>whnf
   exact eJ (by rw[aF,h2];rfl)
  ·conv=>whnf
   exact⟨m-1,by omega,j+1,by omega,aP j (by simp[dB]at hl;omega),by rw[aF,h2];rfl⟩
 ·have bp:j=xs.length:=by have: ¬j<xs.length:=by simpa using h1
                          omega
  subst bp;rw[aal]at aF;conv=>whnf
  exact eJ (by rw[aF];rfl)
theorem CH(hp:cF pr)(xs:List Int)(hl:xs.length<=dB):dK pr 66 [.sl (xs.map i64),YO] (.bool (xs.any fun n=>!bQ n)):=by
 have h:=KJ hp xs hl;rw[<-zV (fun n=>!bQ n) xs 0 (Int.le_refl 0)];refine ff hp rfl rfl ?_;have S:=aj.nil []
 iterate 3
  all_goals(try(conv=>whnf))
  all_goals(first|(intro iK cp ee bf;replace S:=S.alloc ee bf)|(refine aC (S.row 0 rfl) ?_)|(refine aC (S.row 1 rfl) ?_)|(refine aC (S.row 2 rfl) ?_)|(refine aC (S.row 3 rfl) ?_)|(refine aC (S.row 4 rfl) ?_)|(refine⟨_,rfl,rfl,rfl,.inl ⟨_,S.row 0 rfl,rfl,?_⟩⟩;(conv=>whnf);intro cp bf;replace S:=S.w0 bf)|(refine⟨_,rfl,rfl,rfl,.inl ⟨_,S.row 1 rfl,rfl,?_⟩⟩;(conv=>whnf);intro cp bf;replace S:=S.w1 bf)|(refine⟨_,rfl,rfl,rfl,.inl ⟨_,S.row 2 rfl,rfl,?_⟩⟩;(conv=>whnf);intro cp bf;replace S:=S.w2 bf)|(refine⟨_,rfl,rfl,rfl,.inl ⟨_,S.row 3 rfl,rfl,?_⟩⟩;(conv=>whnf);intro cp bf;replace S:=S.w3 bf)|(refine⟨_,rfl,rfl,rfl,.inl ⟨_,S.row 4 rfl,rfl,?_⟩⟩;(conv=>whnf);intro cp bf;replace S:=S.w4 bf)|(refine ae (fun hb=>?_) (fun hb=>?_))|(refine⟨_,h _,?_⟩)|skip)
 all_goals exact br hb.symm
theorem Ie(hp:cF pr)(xs:List Int)(hl:xs.length<=dB):dK pr 33 [.sl (xs.map i64)] (.bool (o8 xs)):=by
 have h:=CH hp xs hl;refine ff hp rfl rfl ?_;have S:=aj.nil []
 iterate 5
  all_goals(try(conv=>whnf))
  all_goals(first|(intro iK cp ee bf;replace S:=S.alloc ee bf)|(refine aC (S.row 0 rfl) ?_)|(refine aC (S.row 1 rfl) ?_)|(refine aC (S.row 2 rfl) ?_)|(refine aC (S.row 3 rfl) ?_)|(refine aC (S.row 4 rfl) ?_)|(refine⟨_,rfl,rfl,rfl,.inl ⟨_,S.row 0 rfl,rfl,?_⟩⟩;(conv=>whnf);intro cp bf;replace S:=S.w0 bf)|(refine⟨_,rfl,rfl,rfl,.inl ⟨_,S.row 1 rfl,rfl,?_⟩⟩;(conv=>whnf);intro cp bf;replace S:=S.w1 bf)|(refine⟨_,rfl,rfl,rfl,.inl ⟨_,S.row 2 rfl,rfl,?_⟩⟩;(conv=>whnf);intro cp bf;replace S:=S.w2 bf)|(refine⟨_,rfl,rfl,rfl,.inl ⟨_,S.row 3 rfl,rfl,?_⟩⟩;(conv=>whnf);intro cp bf;replace S:=S.w3 bf)|(refine⟨_,rfl,rfl,rfl,.inl ⟨_,S.row 4 rfl,rfl,?_⟩⟩;(conv=>whnf);intro cp bf;replace S:=S.w4 bf)|(refine ae (fun hb=>?_) (fun hb=>?_))|(refine⟨_,h _,?_⟩)|skip)
 all_goals exact br (by clear h hl hp;first|(simp_all[o8];done)|(simp_all[o8];omega))
def jc:List Int->List Int->Int
 | [],[]=>0
 | [],_::_=>-1
 |_::_,[]=>1
 |x::xs,y::ys=>if x<y then-1 else if x>y then 1 else jc xs ys
theorem Ig: ∀(a b:List Int),jc a b<0↔o7 a b<0
 | [],[]=>Iff.rfl
 | [],y::ys=>by
  have:o7 [] (y::ys)<0:=by simp only[o7,abj,aak];omega
  exact⟨fun _=>this,fun _=>by show(-1:Int)<0;omega⟩
 |x::xs,[]=>by
  have: ¬o7 (x::xs) []<0:=by simp only[o7,abj,aak];omega
  exact⟨fun h=>by have h':(1:Int)<0:=h;omega,fun h=>absurd h this⟩
 |x::xs,y::ys=>by
  have ih:=Ig xs ys;have e1:jc (x::xs) (y::ys)=if x<y then-1 else if x>y then 1 else jc xs ys:=rfl
  have e2:o7 (x::xs) (y::ys)=if x<y then-1 else if y<x then 1 else o7 xs ys:=rfl
  rw[e1,e2];rcases Int.lt_trichotomy x y with h|h|h
  ·rw[if_pos h,if_pos h]
  ·subst h;rw[if_neg (by omega),if_neg (by omega),if_neg (by omega),if_neg (by omega)];exact ih
  ·rw[if_neg (by omega),if_pos h,if_neg (by omega),if_pos (by omega)]
theorem E4(a b:List Int):decide (jc a b<0)=fl a b:=by
 simp only[fl,Ig]
theorem MD(hp:cF pr)(n:Int):dK pr 128 [i64 n] (.bool false):=by
 refine ff hp rfl rfl ?_;have S:=aj.nil []
 iterate 3
  all_goals(try(conv=>whnf))
  all_goals(first|(intro iK cp ee bf;replace S:=S.alloc ee bf)|(refine aC (S.row 0 rfl) ?_)|(refine aC (S.row 1 rfl) ?_)|(refine aC (S.row 2 rfl) ?_)|(refine aC (S.row 3 rfl) ?_)|(refine aC (S.row 4 rfl) ?_)|(refine⟨_,rfl,rfl,rfl,.inl ⟨_,S.row 0 rfl,rfl,?_⟩⟩;(conv=>whnf);intro cp bf;replace S:=S.w0 bf)|(refine⟨_,rfl,rfl,rfl,.inl ⟨_,S.row 1 rfl,rfl,?_⟩⟩;(conv=>whnf);intro cp bf;replace S:=S.w1 bf)|(refine⟨_,rfl,rfl,rfl,.inl ⟨_,S.row 2 rfl,rfl,?_⟩⟩;(conv=>whnf);intro cp bf;replace S:=S.w2 bf)|(refine⟨_,rfl,rfl,rfl,.inl ⟨_,S.row 3 rfl,rfl,?_⟩⟩;(conv=>whnf);intro cp bf;replace S:=S.w3 bf)|(refine⟨_,rfl,rfl,rfl,.inl ⟨_,S.row 4 rfl,rfl,?_⟩⟩;(conv=>whnf);intro cp bf;replace S:=S.w4 bf)|(refine ae (fun hb=>?_) (fun hb=>?_))|skip)
 all_goals exact br (by simp_all)
def KK(x y:Int):Int:=if x<y then-1 else if x>y then 1 else 0
theorem QV(hp:cF pr)(x y:Int):dK pr 102 [i64 x,i64 y] (i64 (KK x y)):=by
 have h1:=MD hp x;have h2:=MD hp y;refine ff hp rfl rfl ?_;have S:=aj.nil []
 iterate 5
  all_goals(try(conv=>whnf))
  all_goals(first|(intro iK cp ee bf;replace S:=S.alloc ee bf)|(refine aC (S.row 0 rfl) ?_)|(refine aC (S.row 1 rfl) ?_)|(refine aC (S.row 2 rfl) ?_)|(refine aC (S.row 3 rfl) ?_)|(refine aC (S.row 4 rfl) ?_)|(refine⟨_,rfl,rfl,rfl,.inl ⟨_,S.row 0 rfl,rfl,?_⟩⟩;(conv=>whnf);intro cp bf;replace S:=S.w0 bf)|(refine⟨_,rfl,rfl,rfl,.inl ⟨_,S.row 1 rfl,rfl,?_⟩⟩;(conv=>whnf);intro cp bf;replace S:=S.w1 bf)|(refine⟨_,rfl,rfl,rfl,.inl ⟨_,S.row 2 rfl,rfl,?_⟩⟩;(conv=>whnf);intro cp bf;replace S:=S.w2 bf)|(refine⟨_,rfl,rfl,rfl,.inl ⟨_,S.row 3 rfl,rfl,?_⟩⟩;(conv=>whnf);intro cp bf;replace S:=S.w3 bf)|(refine⟨_,rfl,rfl,rfl,.inl ⟨_,S.row 4 rfl,rfl,?_⟩⟩;(conv=>whnf);intro cp bf;replace S:=S.w4 bf)|(refine ae (fun hb=>?_) (fun hb=>?_))|(refine⟨_,h1 _,?_⟩)|(refine⟨_,h2 _,?_⟩)|skip)
 all_goals exact eJ (by clear h1 h2;first|(simp_all[KK];done)|(simp_all[KK];omega))
theorem QW{xs:List Int}(ys:List Int)(h:xs=[]):jc xs ys=if ys=[]then 0 else-1:=by
 subst h;cases ys<;>rfl
theorem DI(hp:cF pr)(xs ys:List Int)(hl:xs.length<=dB)(Cu:ys.length<=dB):dK pr 69 [.sl (xs.map i64),.sl (ys.map i64)] (i64 (jc xs ys)):=by
 refine ff hp rfl rfl ?_;have S:=aj.nil [];conv=>whnf
 refine iv (fun m tm hp=>∃(j:Nat),j+m=xs.length/\tm 11=i64 (j:Nat)/\(j<=ys.length/\jc xs ys=jc (xs.drop j) (ys.drop j))) (fun m tm hq bG hI=>?_) (xs.length) ⟨0,by simp,(by first|rfl|kernel_rfl|simp),(by simp)⟩;obtain⟨j,hj,Kr,aF⟩:=hI;have k0:=bG 0 (by kernel_rfl);conv at k0=>rhs;whnf
 rw[<-aR k0];have k1:=bG 1 (by kernel_rfl);conv at k1=>rhs;whnf
 rw[<-aR k1];have k9:=bG 9 (by kernel_rfl);conv at k9=>rhs;whnf
 rw[<-aR k9];have Wh:=bG 10 (by kernel_rfl);conv at Wh=>rhs;whnf
 rw[<-aR Wh];rw[<-aR Kr];clear bG k0 k1 k9 Wh Kr;have S:aj hq []:=aj.nil hq;conv=>whnf
 obtain⟨hjy,aF⟩:=aF;refine ae (fun h1=>?_) (fun h1=>?_)
 ·have bp:j<xs.length:=by simpa using h1
  have g1:(xs.map i64)[((j:Nat):Int).toNat]?=some (i64 xs[j]):=by rw[aaa];simp[bp]
  rw[aaf bp]at aF;conv=>whnf
  refine⟨_,g1,by omega,rfl,?_⟩;conv=>whnf
  refine ae (fun h2=>?_) (fun h2=>?_)
  ·have ss:ys.length<=j:=by simpa using h2
   rw[List.drop_eq_nil_of_le ss]at aF;conv=>whnf
   exact eJ (by rw[aF];rfl)
  ·have ss:j<ys.length:=by simpa using h2
   have g2:(ys.map i64)[((j:Nat):Int).toNat]?=some (i64 ys[j]):=by rw[aaa];simp[ss]
   rw[aaf ss]at aF;have h3:=QV hp xs[j] ys[j]
   have dR:jc xs ys=if KK xs[j] ys[j]=0 then jc (xs.drop (j+1)) (ys.drop (j+1))else KK xs[j] ys[j]:=by
    rw[aF];simp only[jc,KK];split
    ·simp
    ·split<;>simp
   generalize xs[j]=x at g1 h3 dR;generalize ys[j]=y at g2 h3 dR;generalize KK x y=c at h3 dR;conv=>whnf
   refine⟨_,g2,by omega,rfl,?_⟩;conv=>whnf
   refine⟨_,h3 _,?_⟩;conv=>whnf
   refine ae (fun h4=>?_) (fun h4=>?_)
   ·conv=>whnf
    exact eJ (by rw[dR,if_neg (by simpa using h4)])
   ·conv=>whnf
    exact⟨m-1,by omega,j+1,by omega,aP j (by simp[dB]at hl;omega),by omega,by rw[dR,if_pos (by simpa using h4)]⟩
 ·have bp:j=xs.length:=by have: ¬j<xs.length:=by simpa using h1
                          omega
  subst bp;rw[QW _ (aal)]at aF;conv=>whnf
  refine ae (fun h2=>?_) (fun h2=>?_)
  ·conv=>whnf
   exact eJ (by rw[aF,if_neg (by simp at h2⊢;omega)])
  ·conv=>whnf
   exact eJ (by rw[aF,if_pos (by simp at h2⊢;omega)])
theorem KL(hp:cF pr)(a b:List Int)(h1:a.length<=dB)(h2:b.length<=dB):dK pr 34 [.sl (a.map i64),.sl (b.map i64)] (.bool (fl a b)):=by
 have h:=DI hp a b h1 h2;rw[<-E4];refine ff hp rfl rfl ?_;have S:=aj.nil []
 iterate 3
  all_goals(try(conv=>whnf))
  all_goals(first|(intro iK cp ee bf;replace S:=S.alloc ee bf)|(refine aC (S.row 0 rfl) ?_)|(refine aC (S.row 1 rfl) ?_)|(refine aC (S.row 2 rfl) ?_)|(refine aC (S.row 3 rfl) ?_)|(refine aC (S.row 4 rfl) ?_)|(refine⟨_,rfl,rfl,rfl,.inl ⟨_,S.row 0 rfl,rfl,?_⟩⟩;(conv=>whnf);intro cp bf;replace S:=S.w0 bf)|(refine⟨_,rfl,rfl,rfl,.inl ⟨_,S.row 1 rfl,rfl,?_⟩⟩;(conv=>whnf);intro cp bf;replace S:=S.w1 bf)|(refine⟨_,rfl,rfl,rfl,.inl ⟨_,S.row 2 rfl,rfl,?_⟩⟩;(conv=>whnf);intro cp bf;replace S:=S.w2 bf)|(refine⟨_,rfl,rfl,rfl,.inl ⟨_,S.row 3 rfl,rfl,?_⟩⟩;(conv=>whnf);intro cp bf;replace S:=S.w3 bf)|(refine⟨_,rfl,rfl,rfl,.inl ⟨_,S.row 4 rfl,rfl,?_⟩⟩;(conv=>whnf);intro cp bf;replace S:=S.w4 bf)|(refine ae (fun hb=>?_) (fun hb=>?_))|(refine⟨_,h _,?_⟩)|skip)
 all_goals exact br (by rw[hb])
theorem QX(hp:cF pr)(xs ys:List Int)(hl:xs.length<=dB):dK pr 39 [.sl (xs.map i64),.sl (ys.map i64)] (.bool (fL xs ys)):=by
 refine ff hp rfl rfl ?_;have S:=aj.nil [];conv=>whnf
 refine ae (fun h0=>?_) (fun h0=>?_)
 ·conv=>whnf
  exact br (fg (by simp at h0;omega)).symm
 have hlen:xs.length=ys.length:=by simp at h0;omega
 conv=>whnf
 refine iv (fun m tm hp=>∃(j:Nat),j+m=xs.length/\tm 13=i64 (j:Nat)/\(fL xs ys=bZ (· == ·) (xs.drop j) (ys.drop j))) (fun m tm hq bG hI=>?_) (xs.length) ⟨0,by simp,(by first|rfl|kernel_rfl|simp),(rfl)⟩;obtain⟨j,hj,NQ,aF⟩:=hI;have k0:=bG 0 (by kernel_rfl);conv at k0=>rhs;whnf
 rw[<-aR k0];have k1:=bG 1 (by kernel_rfl);conv at k1=>rhs;whnf
 rw[<-aR k1];have Wi:=bG 12 (by kernel_rfl);conv at Wi=>rhs;whnf
 rw[<-aR Wi];rw[<-aR NQ];clear bG k0 k1 Wi NQ;have S:aj hq []:=aj.nil hq;conv=>whnf
 refine ae (fun h1=>?_) (fun h1=>?_)
 ·have bp:j<xs.length:=by simpa using h1
  rw[en bp (by omega)]at aF;conv=>whnf
  refine⟨i64 xs[j],by simp[bp],by omega,rfl,?_⟩;conv=>whnf
  refine⟨i64 ys[j],by simp[show j<ys.length by omega],by omega,rfl,?_⟩;conv=>whnf
  refine ae (fun h2=>?_) (fun h2=>?_)
  ·have h3:(xs[j]==ys[j])=false:=by simpa using h2
   conv=>whnf
   exact br (by rw[aF,h3];rfl)
  ·have h3:(xs[j]==ys[j])=true:=by simpa using h2
   conv=>whnf
   exact⟨m-1,by omega,j+1,by omega,aP j (by simp[dB]at hl;omega),by rw[aF,h3];rfl⟩
 ·have bp:j=xs.length:=by have: ¬j<xs.length:=by simpa using h1
                          omega
  subst bp;rw[eN hlen]at aF;conv=>whnf
  exact br aF.symm
theorem KM(hp:cF pr)(a b:List Int)(h1:a.length<=dB):dK pr 26 [.sl (a.map i64),.sl (b.map i64)] (.bool (fL a b)):=by
 have h:=QX hp a b h1;refine ff hp rfl rfl ?_;have S:=aj.nil []
 iterate 3
  all_goals(try(conv=>whnf))
  all_goals(first|(intro iK cp ee bf;replace S:=S.alloc ee bf)|(refine aC (S.row 0 rfl) ?_)|(refine aC (S.row 1 rfl) ?_)|(refine aC (S.row 2 rfl) ?_)|(refine aC (S.row 3 rfl) ?_)|(refine aC (S.row 4 rfl) ?_)|(refine⟨_,rfl,rfl,rfl,.inl ⟨_,S.row 0 rfl,rfl,?_⟩⟩;(conv=>whnf);intro cp bf;replace S:=S.w0 bf)|(refine⟨_,rfl,rfl,rfl,.inl ⟨_,S.row 1 rfl,rfl,?_⟩⟩;(conv=>whnf);intro cp bf;replace S:=S.w1 bf)|(refine⟨_,rfl,rfl,rfl,.inl ⟨_,S.row 2 rfl,rfl,?_⟩⟩;(conv=>whnf);intro cp bf;replace S:=S.w2 bf)|(refine⟨_,rfl,rfl,rfl,.inl ⟨_,S.row 3 rfl,rfl,?_⟩⟩;(conv=>whnf);intro cp bf;replace S:=S.w3 bf)|(refine⟨_,rfl,rfl,rfl,.inl ⟨_,S.row 4 rfl,rfl,?_⟩⟩;(conv=>whnf);intro cp bf;replace S:=S.w4 bf)|(refine ae (fun hb=>?_) (fun hb=>?_))|(refine⟨_,h _,?_⟩)|skip)
 all_goals exact br hb.symm
end Go.Proofs.YtfepbikckfehlaaGreat

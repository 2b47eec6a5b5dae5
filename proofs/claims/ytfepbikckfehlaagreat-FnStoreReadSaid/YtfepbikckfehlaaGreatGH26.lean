/- The last two runs merged, of frozen ones: the reference's. -/
import Derived.Test.YtfepbikckfehlaaGreatGH16
import Derived.Test.YtfepbikckfehlaaGreatGH25
set_option linter.unusedVariables false
set_option linter.unusedSimpArgs false
set_option maxHeartbeats 4000000
namespace Go.Am
open Go
def Chunk.old(h0:aC)(G:List Nat):Chunk:=⟨G,fun h=>∀id∈G,id<h.length/\h[id]?=h0[id]?,fun h h' hp hf id cq=>by
 obtain⟨h1,h2⟩:=hp id cq;have h3:=hf id cq;refine⟨?_,h3.trans h2⟩;rw[au h1]at h3;exact(az.1 h3).1,fun h hp id cq=>(hp id cq).1⟩
def rN(h:aC)(L:List Chunk):List Nat:=(List.range h.length).filter fun id=>L.all fun c=>!c.F.contains id
theorem ss{h:aC}{L:List Chunk}{id:Nat}:id∈rN h L↔id<h.length/\ ∀c∈L,id∉c.F:=by
 unfold rN;rw[List.mem_filter,List.mem_range,aG];simp
theorem ah.ghost{h:aC}{L:List Chunk}(s:ah h L):ah h (.old h (rN h L)::L):=by
 refine⟨fun i d hi=>?_,fun i j d e xl hi hj id cq hm=>?_⟩
 ·match i,hi with
  |0,hi=>
   simp at hi;subst hi
   exact⟨fun id cq=>⟨(ss.1 cq).1,rfl⟩,List.nodup_range.filter _⟩
  |i+1,hi=>exact s.get' i d (by simpa using hi)
 ·match i,j,hi,hj with
  |0,0,_,_=>exact xl rfl
  |0,j+1,hi,hj=>simp at hi;subst hi;exact(ss.1 cq).2 e (aV (by simpa using hj)) hm
  |i+1,0,hi,hj=>simp at hj;subst hj;exact(ss.1 hm).2 d (aV (by simpa using hi)) cq
  |i+1,j+1,hi,hj=>exact s.apart i j d e (by omega) (by simpa using hi) (by simpa using hj) id cq hm
theorem su{p:Nat->Bool}{h:aC}{id:Nat}(hp:p id=false):(fg p 0 h)[id]?=h[id]?:=by
 rw[sc,bg,hp];simp
theorem ah.th{h:aC}{L:List Chunk}{p:Nat->Bool}(s:ah h L)(hk: ∀c∈L,∀id∈c.F,p id=false):ah (fg p 0 h) L:=
 ⟨fun i d hi=>⟨d.loc h _ (s.get i hi) fun id cq=>su (hk d (aV hi) id cq),(s.get' i d hi).2⟩,s.apart⟩
end Go.Am
namespace Go.Proofs.YtfepbikckfehlaaGreat
open Go Go.Am
variable{pr:bL}
theorem bZ.rO{h:aC}{ds:List ba}{vs:List af}{F:List Nat}(ho:bZ h ds vs F)(hd:ba.cZ ds<=4194302):Am.snap h (.dX vs)=some (.dX (ba.cz ds)):=by
 obtain⟨n,hn,hle⟩: ∃n:Nat,4194304=n+2/\4194302=n:=⟨4194302,by decide,rfl⟩;have e:=(uH (h:=h) _).2.1 ds vs F n (aB _) ho (by omega);unfold Am.snap;rw[hn];show(cp (bS h (n+1)) vs).map af.dX=_;rw[e];rfl
theorem kC.ret{f:FuncId}{args:List af}{d:ba}(hr:kC pr f args d)(ha:cj [] args=some args)(hd:d.dep<=4194303)(hM:fF f=Am.Mode.P:=by rfl):dm pr f args d.enc:=by
 obtain⟨v,h1,F,hc,ho,_⟩:=hr;intro h;have hm:(du pr).M f= .P:=hM;unfold bN;simp only[hm,ha,hc,ho.snap hd,bh]
theorem lu.ret{f:FuncId}{args:List af}{ds:List ba}(hr:lu pr f args ds)(ha:cj [] args=some args)(hd:ba.cZ ds<=4194302)(hM:fF f=Am.Mode.P:=by rfl):dm pr f args (.dX (ba.cz ds)):=by
 obtain⟨vs,h1,F,hc,ho,_⟩:=hr;intro h;have hm:(du pr).M f= .P:=hM;unfold bN;simp only[hm,ha,hc,bZ.rO ho hd,bh]
theorem Tg{f:FuncId}{args:List af}{h:aC}{L:List Chunk}{C0:Chunk}{Q:af->Chunk->Prop}(hM:fF f=Am.Mode.R)(S:ah h (C0::L))
  (hw: ∀L,ah h (C0::L)-> ∃v h1 x CR C1,call (du pr) f args h=some (.ret v h1)/\ah h1 (CR::C1::L)/\(∀h',CR.P h'->Am.snap h' v=some x)/\C1.F=C0.F/\Q x C1):
  ∃x C1 h2,bN (du pr) (call (du pr)) f args h=some (.ret x h2)/\ah h2 (C1::L)/\h.length<=h2.length/\Q x C1:=by
   have S0:=S.ghost.swap
   have hG: ∀id,id<h.length->id∈C0.F∨id∈rN h (C0::L)∨ ∃c∈L,id∈c.F:=fun id cq=>by
    by_cases h1: ∀c∈C0::L,id∉c.F
    ·exact .inr (.inl (ss.2 ⟨cq,h1⟩))
    ·simp only[aW,Classical.not_forall,Classical.not_not]at h1;obtain⟨c,hc|hc,hm⟩:=h1
     ·subst hc;exact .inl hm
     ·exact .inr (.inr ⟨c,hc,hm⟩)
   generalize rN h (C0::L)=G at S0 hG;obtain⟨v,h1,x,CR,C1,hc,S1,hx,hF,hq⟩:=hw _ S0
   have hlen:h.length<=h1.length:=by
    refine Nat.le_of_not_lt fun eH=>?_;rcases hG (h.length-1) (by omega)with hm|hm|⟨c,ZS,hm⟩
    ·have:=S1.lt 1 rfl _ (by rw[hF];exact hm);omega
    ·have:=S1.lt 2 rfl _ hm;omega
    ·obtain⟨i,hi⟩:=List.mem_iff_getElem?.1 ZS;have:=S1.lt (i+3) (by simpa using hi) _ hm;omega
   have ZT: ∀id∈CR.F,h.length<=id:=fun id cq=>Nat.le_of_not_lt fun eH=>by
    rcases hG id eH with hm|hm|⟨c,ZS,hm⟩
    ·exact S1.apart 0 1 _ _ (by omega) rfl rfl id cq (by rw[hF];exact hm)
    ·exact S1.apart 0 2 _ _ (by omega) rfl rfl id cq hm
    ·obtain⟨i,hi⟩:=List.mem_iff_getElem?.1 ZS;exact S1.apart 0 (i+3) _ c (by omega) rfl (by simpa using hi) id cq hm
   have hs:Am.snap (fg (fun i=>Nat.blt i h.length) 0 h1) v=some x:=hx _ (CR.loc h1 _ (S1.get 0 rfl) fun id cq=>su (by
    cases e:Nat.blt id h.length with
    |false=>rfl
    |true=>have:=ZT id cq;have:=Nat.ble_eq.mp e;omega))
   have eH: ∀c∈C1::L,∀id∈c.F,Nat.ble h.length id=false:=fun c QY id cq=>by
    have:id<h.length:=by
     rcases aW.1 QY with rfl|QY
     ·exact S.lt 0 rfl id (by rw[<-hF];exact cq)
     ·obtain⟨i,hi⟩:=List.mem_iff_getElem?.1 QY;exact S.lt (i+1) (by simpa using hi) id cq
    cases e:Nat.ble h.length id with
    |false=>rfl
    |true=>have:=Nat.ble_eq.mp e;omega
   refine⟨x,C1,fg (Nat.ble h.length) 0 h1,?_,ah.th ((S1.drop 2).drop 0) eH,by rw[f0];exact hlen,hq⟩;have hm:(du pr).M f= .R:=hM;unfold bN;simp only[hm,hc,Nat.ble_eq.mpr hlen,hs,bh]
theorem Uy{f:FuncId}{args cH:List af}{h h1:aC}{v x:af}(hM:fF f=Am.Mode.V)(hn:cj [] args=some cH)(hr:call (du pr) f cH []=some (.ret v h1))(hv:Am.snap h1 v=some x):
  bN (du pr) (call (du pr)) f args h=some (.ret x h):=by
   have hm:(du pr).M f= .V:=hM;unfold bN;simp only[hm,hn,hr,hv,bh]
theorem W5{f:FuncId}{args cH:List af}{h h1:aC}{v x:af}(hM:fF f=Am.Mode.V)(hn:cj [] args=none)(hs:cj (fg (fun i=>!eO h args i) 0 h) args=some cH)(hr:call (du pr) f cH []=some (.ret v h1))(hv:Am.snap h1 v=some x):
  bN (du pr) (call (du pr)) f args h=some (.ret x (fg (eO h args) 0 h)):=by
   have hm:(du pr).M f= .V:=hM;unfold bN;simp only[hm,hn,oY,hs,hr,hv,bh];rfl
theorem Uz{f:FuncId}{args cH:List af}{h h1:aC}{v x:af}(hM:fF f=Am.Mode.X)(hn:cj [] args=some cH)(hr:call (du pr) f cH []=some (.ret v h1))(hv:Am.snap h1 v=some x):
  bN (du pr) (call (du pr)) f args h=some (.ret x h):=by
   have hm:(du pr).M f= .X:=hM;unfold bN;simp only[hm,hn,hr,hv,bh]
theorem W6{f:FuncId}{args cH:List af}{h h1:aC}{v x:af}(hM:fF f=Am.Mode.X)(hn:cj [] args=none)(hs:cj (fg (fun i=>!eO h args i) 0 h) args=some cH)(hr:call (du pr) f cH []=some (.ret v h1))(hv:Am.snap h1 v=some x):
  bN (du pr) (call (du pr)) f args h=some (.ret x ((fg (eO h args) 0 h).map (w8 (fg (fun i=>!eO h args i) 0 h) (eO h args)))):=by
   have hm:(du pr).M f= .X:=hM;unfold bN;simp only[hm,hn,oY,hs,hr,hv,bh];rfl
def DG(pr:bL)(f:FuncId)(args:List af)(x:af):Prop:=∃v h1,call (du pr) f args []=some (.ret v h1)/\Am.snap h1 v=some x
theorem UA{f:FuncId}{args cH:List af}{x:af}{h:aC}{L:List Chunk}{C:Chunk}(hM:fF f=Am.Mode.V)(S:ah h (C::L))(hs: ∀h',C.P h'->cj h' args=some cH)(hF: ∀i,eO h args i=true↔i∈C.F)(hr:DG pr f cH x):
  ∃h2,bN (du pr) (call (du pr)) f args h=some (.ret x h2)/\ah h2 L/\h.length<=h2.length:=by
   obtain⟨v,h1,hc,hv⟩:=hr
   cases hn:cj [] args with
   |some a2=>
    have e:=wg h hn;rw[hs h (S.get 0 rfl)]at e;cases e
    exact⟨h,Uy hM hn hc hv,S.drop 0,aB _⟩
   |none=>
    refine⟨_,W5 hM hn (hs _ (C.loc h _ (S.get 0 rfl) fun id cq=>su (by rw[(hF id).2 cq];rfl))) hc hv,ah.th (S.drop 0) fun c QY id cq=>?_,by rw[f0];exact aB _⟩
    cases e:eO h args id with
    |false=>rfl
    |true=>
     obtain⟨i,hi⟩:=List.mem_iff_getElem?.1 QY;exact absurd cq (S.apart 0 (i+1) C c (by omega) rfl (by simpa using hi) id ((hF id).1 e))
mutual
def ba.Bn:ba->Bool
 | .p _=>false
 | .s _ xs=>ba.nW xs
 | .a _ xs=>ba.nW xs
 | .g ds=>ba.nW ds
 |_=>true
def ba.nW:List ba->Bool
 | []=>true
 |d::ds=>d.Bn&&ba.nW ds
end
theorem Ch{h:aC}{x:af}(hx:x.IL=true)(n:Nat):jg h n x=[]:=by
 cases n with
 |zero=>rfl
 |succ n=>cases x<;>first|rfl|(simp[af.IL,af.isScalar]at hx)
theorem qw{h:aC}: ∀{xs:List af}(hx:xs.all af.IL=true)(n:Nat),xs.flatMap (jg h n)=[]
 | [],_,_=>rfl
 |x::xs,hx,n=>by
  simp only[List.all_cons,aj]at hx;rw[List.flatMap_cons,Ch hx.1 n,qw hx.2 n];rfl
theorem Mw{h:aC}: ∀(N:Nat),(∀(d:ba)(v:af)(F:List Nat)(n:Nat),SizeOf.sizeOf d<=N->d.Bn=true->bP h d v F->d.dep<=n->jg h (n+1) v=F/\v.cells.flatMap (jg h n)=F)/\
  (∀(ds:List ba)(vs:List af)(F:List Nat)(n:Nat),SizeOf.sizeOf ds<=N->ba.nW ds=true->bZ h ds vs F->ba.cZ ds<=n->vs.flatMap (jg h (n+1))=F)/\
  ∀(ds:List ba)(vs:List af)(F:List Nat)(n:Nat),SizeOf.sizeOf ds<=N->ba.nW ds=true->ep h ds vs F->ba.cZ ds<=n->vs.flatMap (jg h n)=F:=by
   intro N
   induction N with
   |zero=>
    refine⟨fun d v F n hs=>?_,fun ds vs F n hs=>?_,fun ds vs F n hs=>?_⟩
    ·cases d<;>simp at hs
    ·cases ds<;>simp at hs
    ·cases ds<;>simp at hs
   |succ N ih=>
    refine⟨fun d v F n hs hu hp hn=>?_,fun ds vs F n hs hu hp hn=>?_,fun ds vs F n hs hu hp hn=>?_⟩
    ·have key:v.IL=true->F=[]->jg h (n+1) v=F/\v.cells.flatMap (jg h n)=F:=fun h1 h2=>by
      subst h2;refine⟨Ch h1 _,?_⟩;have e:v.cells=[v]:=by cases v<;>first|rfl|(simp[af.IL,af.isScalar]at h1)
      rw[e];exact qw (by simp[h1]) n
     cases d with
     |i x=>simp only[bP]at hp;obtain⟨rfl,hF⟩:=hp;exact key rfl hF
     |b x=>simp only[bP]at hp;obtain⟨rfl,hF⟩:=hp;exact key rfl hF
     |p q=>simp only[ba.Bn]at hu;cases hu
     |s sz xs=>
      simp only[bP]at hp;simp only[ba.dep]at hn;simp only[ba.Bn]at hu;obtain⟨n,rfl⟩: ∃k,n=k+2:=⟨n-2,by omega⟩;rcases hp with⟨rfl,rfl,rfl|rfl⟩|⟨id,vs,Fs,rfl,h5,h6,rfl⟩
      ·exact⟨rfl,rfl⟩
      ·exact⟨rfl,rfl⟩
      ·have e1:=ih.2.1 xs vs Fs (n+1) (by simp at hs;omega) hu h6 (by omega);have e2:=ih.2.1 xs vs Fs n (by simp at hs;omega) hu h6 (by omega);refine⟨?_,?_⟩
       ·simp only[jg,h5];rw[<-e1]
       ·simp only[af.cells,List.flatMap_cons,List.flatMap_nil,aU];simp only[jg,h5]
        rw[<-e2]
     |a sz xs=>
      simp only[bP]at hp;simp only[ba.dep]at hn;simp only[ba.Bn]at hu;obtain⟨n,rfl⟩: ∃k,n=k+2:=⟨n-2,by omega⟩;rcases hp with⟨rfl,rfl,rfl⟩|⟨id,vs,Fs,rfl,h5,h6,rfl⟩
      ·exact⟨rfl,rfl⟩
      ·have e1:=ih.2.1 xs vs Fs (n+1) (by simp at hs;omega) hu h6 (by omega);have e2:=ih.2.1 xs vs Fs n (by simp at hs;omega) hu h6 (by omega);refine⟨?_,?_⟩
       ·simp only[jg,h5];rw[<-e1]
       ·simp only[af.cells,List.flatMap_cons,List.flatMap_nil,aU];simp only[jg,h5]
        rw[<-e2]
     |g ds=>
      simp only[bP]at hp;simp only[ba.dep]at hn;simp only[ba.Bn]at hu;obtain⟨vs,rfl,h1⟩:=hp;have e1:=ih.2.2 ds vs F n (by simp at hs;omega) hu h1 (by omega)
      exact⟨e1,e1⟩
     |v x=>
      simp only[bP]at hp;obtain⟨rfl,rfl,hx⟩:=hp
      cases v with
      |agg cs=>exact⟨qw (show cs.all af.IL=true from hx) n,qw (show cs.all af.IL=true from hx) n⟩
      |_=>exact key hx rfl
    ·cases ds with
     |nil=>simp only[bZ]at hp;rw[hp.1,hp.2];rfl
     |cons p ps=>
      simp only[bZ]at hp;obtain⟨v,eo,F1,F2,rfl,rfl,h1,h2⟩:=hp;simp at hs;simp only[ba.cZ]at hn;simp only[ba.nW,aj]at hu;rw[List.flatMap_cons,(ih.1 p v F1 n (by omega) hu.1 h1 (by omega)).1,ih.2.1 ps eo F2 n (by omega) hu.2 h2 (by omega)]
    ·cases ds with
     |nil=>simp only[ep]at hp;rw[hp.1,hp.2];rfl
     |cons p ps=>
      simp only[ep]at hp;obtain⟨v,eo,F1,F2,rfl,rfl,h1,h2⟩:=hp;simp at hs;simp only[ba.cZ]at hn;simp only[ba.nW,aj]at hu;rw[List.flatMap_append,(ih.1 p v F1 n (by omega) hu.1 h1 (by omega)).2,ih.2.2 ps eo F2 n (by omega) hu.2 h2 (by omega)]
theorem bZ.reach{h:aC}{ds:List ba}{vs:List af}{F:List Nat}(ho:bZ h ds vs F)(hu:ba.nW ds=true)(hd:ba.cZ ds<=4194303)(i:Nat):eO h vs i=true↔i∈F:=by
 obtain⟨n,hn,hle⟩: ∃n:Nat,4194304=n+1/\4194303=n:=⟨4194303,by decide,rfl⟩;unfold eO;rw[hn,(Mw _).2.1 ds vs F n (aB _) hu ho (by omega)];simp
theorem PJ{f:FuncId}{ds:List ba}{vs:List af}{F:List Nat}{x:af}{h:aC}{L:List Chunk}(hM:fF f=Am.Mode.V)(S:ah h (.dy ds vs F::L))(hu:ba.nW ds=true)(hd:ba.cZ ds<=4194303)(hr:DG pr f (ba.cz ds) x):
  ∃h2,bN (du pr) (call (du pr)) f vs h=some (.ret x h2)/\ah h2 L/\h.length<=h2.length:=by
   refine UA hM S (fun h' hp=>?_) (bZ.reach (S.get 0 rfl) hu hd) hr;obtain⟨n,hn,hle⟩: ∃n:Nat,4194304=n+1/\4194303=n:=⟨4194303,by decide,rfl⟩;have ho:bZ h' ds vs F:=hp;have e:=(uH (h:=h') _).2.1 ds vs F n (aB _) ho (by omega);unfold cj Am.snap;rw[hn];exact e
end Go.Proofs.YtfepbikckfehlaaGreat
set_option maxHeartbeats 4000000
namespace Go.Proofs.YtfepbikckfehlaaGreat
open Go Go.Am
variable{pr:bL}(hp:bV pr)
set_option maxRecDepth 100000
theorem kC.toV{f:FuncId}{args:List af}{d:ba}(hr:kC pr f args d)(hd:d.dep<=4194303):DG pr f args d.enc:=by
 obtain⟨v,h1,F,hc,ho,_⟩:=hr;exact⟨v,h1,hc,ho.snap hd⟩
theorem lu.toV{f:FuncId}{args:List af}{ds:List ba}(hr:lu pr f args ds)(hd:ba.cZ ds<=4194302):DG pr f args (.dX (ba.cz ds)):=by
 obtain⟨vs,h1,F,hc,ho,_⟩:=hr;exact⟨_,h1,hc,bZ.rO ho hd⟩
def bM.v(xs:List (List Item)):List ba:=xs.map fun z=>.v (aE.enc z)
theorem DH{h:aC}: ∀(xs:List (List Item)),bZ h (bM.v xs) (xs.map aE.enc) []
 | []=>by simp[bM.v,bZ]
 |x::xs=>by
  have:=DH (h:=h) xs;simp only[bM.v,aM,bZ,bP];exact⟨_,_,[],[],rfl,rfl,⟨rfl,rfl,rfl⟩,this⟩
theorem W7{h:aC}{L:List Chunk}{A:List (List Item)}{D:af}(S:ah h (.acc Ny 1 (A.map aE.enc) D::L)): ∃F,bP h (.g [.s 1 (bM.v A)]) (.agg [D]) F/\F.Nodup:=by
 have S1:=(S.more (c:=.dy (bM.v A) (A.map aE.enc) []) (List.prefix_refl _) (DH A) (by simp[Chunk.dy]) (by simp[Chunk.dy])).swap;obtain⟨F,S2⟩:=ah.PI S1;have S3:=ah.dv S2;have ho:bP h (.s 1 (bM.v A)) D F:=S3.get 0 rfl;have hn:F.Nodup:=(S3.get' 0 _ rfl).2;exact⟨F++[],gx.2 ⟨_,rfl,kD.2 ⟨D,[],F,[],rfl,rfl,ho,eL.2 ⟨rfl,rfl⟩⟩⟩,by simpa using hn⟩
theorem W8{h:aC}{L:List Chunk}{A:List (List Item)}{z:List Item}{D w:af}{F3:List Nat}(S:ah h (.acc Ny 1 (A.map aE.enc++[w]) D:: .iA 2 (z.map Item.d) w F3::L)): ∃F,bP h (.g [.s 1 (bM.v A++[aE.d z])]) (.agg [D]) F/\F.Nodup:=by
 have S0:=ah.dv S.swap;have S1:=(S0.swap.more (c:=.dy (bM.v A) (A.map aE.enc) []) (List.prefix_refl _) (DH A) (by simp[Chunk.dy]) (by simp[Chunk.dy])).front 2 rfl;dsimp only[List.eraseIdx]at S1;have S2:=(ah.snoc S1).swap;obtain⟨F,S3⟩:=ah.PI S2;have S4:=ah.dv S3;have ho:bP h (.s 1 (bM.v A++[aE.d z])) D F:=S4.get 0 rfl;have hn:F.Nodup:=(S4.get' 0 _ rfl).2;exact⟨F++[],gx.2 ⟨_,rfl,kD.2 ⟨D,[],F,[],rfl,rfl,ho,eL.2 ⟨rfl,rfl⟩⟩⟩,by simpa using hn⟩
theorem PK(hp:bV pr)(A:List (List Item))(y z:List Item)(hy:gi y)(hz:gi z)(hl:y.length+z.length<=cM)(hA:A.length<=1000):
  kC pr 151 [.agg [bM.enc (A++[y,z])]] (.g [.s 1 (bM.v A++(if ct y z=[]then []else [aE.d (ct y z)]))]):=by
   have h1:=kH hp y z hy hz hl;have wh:((A++[y,z]).map aE.enc).length=A.length+2:=by simp
   have Bo:IntKind.i64.wrap ((((A++[y,z]).map aE.enc).length:Int)-2)=(A.length:Int):=by rw[aY,wh];omega
   have A4:IntKind.i64.wrap ((((A++[y,z]).map aE.enc).length:Int)-1)=((A.length+1:Nat):Int):=by rw[aY,wh];omega
   have i4:((A++[y,z]).map aE.enc)[A.length]?=some (aE.enc y):=by simp
   have Nj:((A++[y,z]).map aE.enc)[A.length+1]?=some (aE.enc z):=by simp
   refine lQ hp rfl ?_;have S:ah [] []:=ah.nil [];conv=>whnf
   intro k1 a1 dw dC;replace S:=S.alloc dw dC;conv=>whnf
   intro k2 a2 jf iB;replace S:=S.alloc jf iB;conv=>whnf
   refine aI (S.row 1 rfl) ?_;conv=>whnf
   conv=>whnf
   refine aI (S.row 1 rfl) ?_;conv=>whnf
   refine⟨aE.enc y,by rw[Bo];exact i4,by rw[Bo];omega,rfl,?_⟩;conv=>whnf
   refine aI (S.row 1 rfl) ?_;conv=>whnf
   refine⟨aE.enc z,by rw[A4];exact Nj,by rw[A4];omega,rfl,?_⟩;conv=>whnf
   refine cI S h1 rfl rfl fun w q1 F3 S1=>?_;clear S h1;have S:=S1;clear S1;conv=>whnf
   refine aI (S.row 2 rfl) ?_;conv=>whnf
   conv=>whnf
   have b1:(0:Int)<=IntKind.i64.wrap ((((A++[y,z]).map aE.enc).length:Int)-2):=by rw[Bo];omega
   have b2:IntKind.i64.wrap ((((A++[y,z]).map aE.enc).length:Int)-2)<=(((A++[y,z]).map aE.enc).length:Int):=by rw[Bo,wh];omega
   have b3:(IntKind.i64.wrap ((((A++[y,z]).map aE.enc).length:Int)-2)).toNat=A.length:=by rw[Bo];rfl
   refine⟨⟨Int.le_refl _,b1,b2,by rw[List.all_map,aG];intro _ _;rfl⟩,?_⟩;conv=>whnf
   refine⟨trivial,?_⟩;conv=>whnf
   have ZU:(((A++[y,z]).map aE.enc).drop ((none:Option Int).getD 0).toNat).take (((some (IntKind.i64.wrap ((((A++[y,z]).map aE.enc).length:Int)-2))).getD (((A++[y,z]).map aE.enc).length:Int)).toNat-((none:Option Int).getD 0).toNat)=A.map aE.enc:=by
    rw[Option.getD_some,b3];show List.take A.length (List.map aE.enc (A++[y,z]))=_;rw[bd,List.take_left' (by simp)]
   refine⟨A.map aE.enc,congrArg some ZU,by rw[List.all_map,aG];intro _ _;rfl,?_⟩;rw[<-DF (A.map aE.enc)];refine jA (ah.ma Ny 1 S) (by simp[br];omega) fun D1 w1 Ec S1=>?_;have hc:D1.cells=[D1]:=by rcases Ec with rfl|⟨_,rfl⟩<;>rfl
   replace S:=S1;clear S1;rw[List.nil_append]at S Ec;conv=>whnf
   refine dE hc ?_;conv=>whnf
   intro k3 a3 kS jN;replace S:=S.alloc kS jN;have rq:[D1].all af.bE=true:=by rcases Ec with rfl|⟨_,rfl⟩<;>rfl
   conv=>whnf
   refine⟨_,rfl,rfl,rq,.inl ⟨_,S.row 0 rfl,rfl,?_⟩⟩;conv=>whnf
   intro a4 Gv;replace S:=S.w0 Gv;conv=>whnf
   replace S:=S.front 2 rfl;simp only[List.eraseIdx_cons_succ,List.eraseIdx_cons_zero]at S;have S':ah a4 [.iA 2 (List.map Item.d (ct y z)) w F3,.row k3 (.box (.agg [D1])),.acc Ny 1 (A.map aE.enc) D1,.row k2 (.box (.agg [.nil]))]:=S.drop 4;clear S;have S:=S';clear S';rcases ah.uK S with⟨tL,rfl,S1⟩|⟨yu,ws,Fs,rfl,S1⟩
   ·have Gq:ct y z=[]:=by simpa using tL
    conv=>whnf
    refine aI (S.row 1 rfl) ?_;conv=>whnf
    conv=>whnf
    refine⟨_,rfl,rfl,rq,.inl ⟨_,S.row 3 rfl,rfl,?_⟩⟩;conv=>whnf
    intro a5 Gw;replace S:=S.w3 Gw;conv=>whnf
    obtain⟨F,ho,hn⟩:=W7 (((S.drop 0).drop 0).front 0 rfl);rw[if_pos Gq,aU];exact⟨.ret (.agg [D1]) a5,dI rfl rfl (S.row 3 rfl) (by rcases Ec with rfl|⟨_,rfl⟩<;>rfl),_,_,F,rfl,ho,hn⟩
   ·rw[aO]at*;conv=>whnf
    by_cases g:ct y z=[]
    ·rw[show decide (((ct y z).length:Int)>0)=false from by rw[g];rfl];conv=>whnf
     refine aI (S.row 1 rfl) ?_;conv=>whnf
     conv=>whnf
     refine⟨_,rfl,rfl,rq,.inl ⟨_,S.row 3 rfl,rfl,?_⟩⟩;conv=>whnf
     intro a5 Gw;replace S:=S.w3 Gw;conv=>whnf
     obtain⟨F,ho,hn⟩:=W7 (((S.drop 0).drop 0).front 0 rfl);rw[if_pos g,aU];exact⟨.ret (.agg [D1]) a5,dI rfl rfl (S.row 3 rfl) (by rcases Ec with rfl|⟨_,rfl⟩<;>rfl),_,_,F,rfl,ho,hn⟩
    ·have ug:0<(ct y z).length:=List.length_pos_iff.mpr g;rw[show decide (((ct y z).length:Int)>0)=true from by simp;exact ug];conv=>whnf
     refine aI (S.row 1 rfl) ?_;conv=>whnf
     conv=>whnf
     intro nM nN de dg;replace S:=S.alloc de dg;conv=>whnf
     refine⟨trivial,?_⟩;conv=>whnf
     refine⟨[_],bG (S.row 0 rfl),cQ rfl rfl,?_⟩;replace S:=S.drop 0;dsimp only[List.eraseIdx]at S;replace S:=S.front 2 rfl;simp only[List.eraseIdx_cons_succ,List.eraseIdx_cons_zero]at S;refine oQ (f:=Ny) (x:=.own yu 0 (ct y z).length) S (by simp[br];omega) fun k4 a5 S2 _=>?_;clear S;have S:=S2;clear S2;conv=>whnf
     refine⟨_,rfl,rfl,rfl,.inl ⟨_,S.row 2 rfl,rfl,?_⟩⟩;conv=>whnf
     intro a6 Xa;replace S:=S.w2 Xa;conv=>whnf
     conv=>whnf
     refine aI (S.row 2 rfl) ?_;conv=>whnf
     conv=>whnf
     refine⟨_,rfl,rfl,rfl,.inl ⟨_,S.row 3 rfl,rfl,?_⟩⟩;conv=>whnf
     intro a7 PL;replace S:=S.w3 PL;conv=>whnf
     obtain⟨F,ho,hn⟩:=W8 (S.drop 2);rw[if_neg g];exact⟨_,dI rfl rfl (S.row 3 rfl) rfl,_,_,F,rfl,ho,hn⟩
end Go.Proofs.YtfepbikckfehlaaGreat

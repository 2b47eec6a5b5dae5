/- A run put behind runs: the reference's. -/
import Derived.Test.YtfepbikckfehlaaGreatGH26
set_option linter.unusedVariables false
set_option linter.unusedSimpArgs false
set_option maxHeartbeats 4000000
namespace Go.Proofs.YtfepbikckfehlaaGreat
open Go Go.Am
variable{pr:bL}(hp:bV pr)
set_option maxRecDepth 100000
def fP(xs:List (List Item)):List (List Item):=match xs.drop (xs.length-2)with
 | [y,z]=>xs.take (xs.length-2)++(if ct y z=[]then []else [ct y z])
 |_=>xs
def iY:Nat->List (List Item)->List (List Item)
 |0,xs=>xs
 |n+1,xs=>if 5<xs.length∨(1<xs.length/\en xs=false)then iY n (fP xs)else xs
def nX(bx:List (List Item))(z:List Item):List (List Item)×Bool:=
 if z=[]then(bx,true)
 else if c7 (gX (bx++[z]))then
  (if xG (iY (bx.length+1) (bx++[z]))then(iY (bx.length+1) (bx++[z]),true)else(bx,false))
 else(bx,false)
theorem wC(xs:List Int):ba.cZ (xs.map ba.i)=1:=by induction xs with|nil=>rfl|cons x xs ih=>simp only[aM,ba.cZ,ba.dep,ih];rfl
theorem j0(z:List Item):(aE.d z).dep<=15:=by
 have key: ∀xs:List Item,ba.cZ (xs.map Item.d)<=10:=by
  intro xs
  induction xs with
  |nil=>simp[ba.cZ]
  |cons x xs ih=>simp only[aM,ba.cZ,Item.d,ba.dep,gq.d,wC];omega
 have:=key z;simp only[aE.d,ba.dep];omega
theorem z6: ∀(A:List (List Item))(d:ba),d.Bn=true->ba.nW (bM.v A++[d])=true
 | [],d,h=>by simp[bM.v,ba.nW,h]
 |x::xs,d,h=>by
  have:=z6 xs d h;simp only[bM.v,aM,List.cons_append,ba.nW,ba.Bn,aX]at this⊢;exact this
theorem tM: ∀(A:List (List Item))(d:ba),d.dep<=15->ba.cZ (bM.v A++[d])<=15
 | [],d,h=>by simp only[bM.v,List.map_nil,List.nil_append,ba.cZ];omega
 |x::xs,d,h=>by
  have:=tM xs d h;simp only[bM.v,aM,List.cons_append,ba.cZ,ba.dep]at this⊢;omega
theorem Mx(ys:List Int):ba.nW (ys.map ba.i)=true:=by induction ys with|nil=>rfl|cons y ys ih=>simp only[aM,ba.nW,ba.Bn,ih,Bool.and_self]
theorem wD(z:List Item):(aE.d z).Bn=true:=by
 have h1: ∀xs:List Item,ba.nW (xs.map Item.d)=true:=by
  intro xs
  induction xs with
  |nil=>rfl
  |cons x xs ih=>simp only[aM,ba.nW,Item.d,ba.Bn,gq.d,Mx,ih,Bool.and_self]
 simp only[aE.d,ba.Bn,h1]
def XR(h:aC)(cur:List (List Item))(D:af)(F:List Nat):Prop:=∃d,bP h d D F/\d.Bn=true/\d.dep<=20/\d.enc=bM.enc cur
def _root_.Go.Am.Chunk.xr(cur:List (List Item))(D:af)(F:List Nat):Chunk:=⟨F,fun h=>XR h cur D F,fun h h'⟨d,ho,hr⟩ hf=>⟨d,bP.frame ho hf,hr⟩,fun h⟨d,ho,_⟩=>bP.lt ho⟩
theorem XR.cases{h:aC}{cur:List (List Item)}{D:af}{F:List Nat}(hx:XR h cur D F):(D= .nil/\cur=[])∨D= .sl (cur.map aE.enc)∨ ∃id,D= .own id 0 cur.length:=by
 obtain⟨d,ho,_,_,he⟩:=hx
 cases d with
 |s sz ds=>
  simp only[ba.enc,bM.enc,af.sl.injEq]at he;have hl:ds.length=cur.length:=by have:=congrArg List.length he;simpa[ba.dM]using this
  simp only[bP]at ho;rcases ho with⟨h1,_,rfl|rfl⟩|⟨id,vs,Fs,rfl,_⟩
  ·subst h1;exact .inl ⟨rfl,bk.1 (by simpa using hl.symm)⟩
  ·subst h1;exact .inr (.inl (by rw[bk.1 (show cur.length=0 by simpa using hl.symm)];rfl))
  ·exact .inr (.inr ⟨id,by rw[hl]⟩)
 |a sz ds=>
  simp only[ba.enc,bM.enc,af.sl.injEq]at he;have hl:ds.length=cur.length:=by have:=congrArg List.length he;simpa[ba.dM]using this
  simp only[bP]at ho;rcases ho with⟨h1,_,rfl⟩|⟨id,vs,Fs,rfl,_⟩
  ·subst h1;exact .inl ⟨rfl,bk.1 (by simpa using hl.symm)⟩
  ·exact .inr (.inr ⟨id,by rw[hl]⟩)
 |v x=>simp only[bP]at ho;rw[ho.1];exact .inr (.inl he)
 |i x=>simp[ba.enc,bM.enc,i64]at he
 |b x=>simp[ba.enc,bM.enc]at he
 |p q=>obtain⟨cs,hc⟩:=sh q;simp only[ba.enc,hc,bM.enc]at he;cases he
 |g ds=>simp[ba.enc,bM.enc]at he
theorem XR.cell{h:aC}{cur:List (List Item)}{D:af}{F:List Nat}(hx:XR h cur D F):D.cells=[D]/\D.bE=true:=by
 rcases hx.cases with⟨rfl,_⟩|rfl|⟨id,rfl⟩<;>exact⟨rfl,rfl⟩
theorem XR.cU{h:aC}{cur:List (List Item)}{D:af}{F:List Nat}(hx:XR h cur D F): ∃d,bP h (.g [d]) (.agg [D]) F/\d.Bn=true/\d.dep<=20/\(ba.g [d]).enc= .agg [bM.enc cur]/\d.enc=bM.enc cur:=by
 have hc:=hx.cell.1;obtain⟨d,ho,h1,h2,he⟩:=hx;refine⟨d,?_,h1,h2,by simp only[ba.enc,ba.sL,he];rfl,he⟩;simp only[bP,ep];exact⟨[D],rfl,D,[],F,[],by rw[hc];rfl,by simp,ho,rfl,rfl⟩
theorem XR.snap{h:aC}{cur:List (List Item)}{D:af}{F:List Nat}(hx:XR h cur D F):Am.snap h (.agg [D])=some (.agg [bM.enc cur]):=by
 obtain⟨d,ho,_,h2,he,_⟩:=hx.cU;rw[<-he];exact ho.snap (by simp only[ba.dep,ba.cZ];omega)
theorem XR.rO{h:aC}{cur:List (List Item)}{D:af}{F:List Nat}(hx:XR h cur D F)(b:Bool):Am.snap h (.dX [.agg [D],.bool b])=some (.dX [.agg [bM.enc cur],.bool b]):=by
 obtain⟨d,ho,_,h2,he,_⟩:=hx.cU;have:=bZ.rO (eW ho (tJ b)) (by simp only[ba.cZ,ba.dep];omega);rw[this];simp only[ba.cz,he];rfl
theorem XR.fz{h:aC}(cur:List (List Item)):XR h cur (bM.enc cur) []:=⟨.v (bM.enc cur),by unfold bP;exact⟨rfl,rfl,rfl⟩,rfl,by simp[ba.dep],rfl⟩
theorem ah.My{h:aC}{L:List Chunk}(cur:List (List Item))(S:ah h L):ah h (.xr cur (bM.enc cur) []::L):=
 S.more (List.prefix_refl _) (XR.fz cur) (by simp[Chunk.xr]) (by simp[Chunk.xr])
theorem XR.of{h:aC}{d:ba}{cur:List (List Item)}{D:af}{F:List Nat}(ho:bP h (.g [d]) (.agg [D]) F)(hd:d.dep<=20)(hn:d.Bn=true)(hc: ∃sz xs,d= .s sz xs)(he:d.enc=bM.enc cur):XR h cur D F:=by
 obtain⟨vs,hv,hu⟩:=gx.1 ho;cases hv
 simp only[ep]at hu;obtain⟨v,eo,F1,F2,h1,rfl,h2,rfl,rfl⟩:=hu;obtain⟨sz,xs,rfl⟩:=hc;rw[h2.cell.1]at h1;simp only[aU,List.cons.injEq,and_true]at h1;subst h1;exact⟨_,by simpa using h2,hn,hd,he⟩
def Calm(c:Chunk):Prop:=∀h h1 p,c.P h->c.P (h.map (w8 h1 p))
theorem Gx{k:Nat}{o:cJ}(ho: ∀h1 p,w8 h1 p o=o):Calm (.row k o):=fun h h1 p hc=>by
 have hc:h[k]?=some o:=hc;show(h.map (w8 h1 p))[k]?=some o;rw[List.getElem?_map,hc,bh,ho]
theorem _root_.Go.Am.ah.calm{h h1:aC}{L:List Chunk}{p:Nat->Bool}(S:ah h L)(hL: ∀c∈L,Calm c):ah (h.map (w8 h1 p)) L:=
 ⟨fun i d hi=>⟨hL d (aV hi) h h1 p (S.get' i d hi).1,(S.get' i d hi).2⟩,S.apart⟩
theorem wE{f:FuncId}{cur:List (List Item)}{D:af}{F:List Nat}{x:af}{h:aC}{k:Nat}{L:List Chunk}(hM:fF f=Am.Mode.X)(S:ah h (.xr cur D F:: .row k (.box (.agg [D]))::L))(hL: ∀c∈L,Calm c)(hr:DG pr f [.agg [bM.enc cur]] x):
  ∃h2 D2,bN (du pr) (call (du pr)) f [.agg [D]] h=some (.ret x h2)/\ah h2 (.xr cur D2 []:: .row k (.box (.agg [D2]))::L)/\h.length<=h2.length:=by
   obtain⟨v,h1,hc,hv⟩:=hr;have hx:XR h cur D F:=S.get 0 rfl
   cases hn:cj [] [af.agg [D]]with
   |some a2=>
    have e:=wg h hn;rw[bm hx.snap (dc h)]at e;cases e
    refine⟨h,D,Uz hM hn hc hv,?_,aB _⟩;refine(S.drop 0).more (List.prefix_refl _) ?_ (by simp[Chunk.xr]) (by simp[Chunk.xr]);rcases hx.cases with⟨rfl,rfl⟩|rfl|⟨id,rfl⟩
    ·exact⟨.s 1 [],by unfold bP;exact .inl ⟨rfl,rfl,.inl rfl⟩,rfl,by simp[ba.dep,ba.cZ],rfl⟩
    ·exact XR.fz cur
    ·have:cj [] [af.agg [af.own id 0 cur.length]]=none:=rfl
     rw[this]at hn;cases hn
   |none=>
    obtain⟨d,ho,h4,h5,he,_⟩:=hx.cU;have Jf: ∀i,eO h [af.agg [D]] i=true↔i∈F:=bZ.reach (ds:=[.g [d]]) (nc ho) (by simp[ba.nW,ba.Bn,h4]) (by simp only[ba.cZ,ba.dep];omega);have xm:XR (fg (fun i=>!eO h [af.agg [D]] i) 0 h) cur D F:=(Chunk.xr cur D F).loc h _ hx fun id cq=>su (by rw[(Jf id).2 cq];rfl)
    have S2:ah (fg (eO h [af.agg [D]]) 0 h) (.row k (.box (.agg [D]))::L):=ah.th (S.drop 0) fun c QY id cq=>by
     cases e:eO h [af.agg [D]] id with
     |false=>rfl
     |true=>
      obtain⟨i,hi⟩:=List.mem_iff_getElem?.1 QY;exact absurd cq (S.apart 0 (i+1) _ c (by omega) rfl (by simpa using hi) id ((Jf id).1 e))
    rcases hx.cases with⟨rfl,rfl⟩|rfl|⟨id,rfl⟩
    ·have:cj [] [af.agg [af.nil]]=some [.agg [.sl []]]:=rfl;rw[this]at hn;cases hn
    ·have:=bm (XR.snap (XR.fz (h:=[]) cur)) (dc []);have Qz:cj [] [af.agg [bM.enc cur]]=none:=hn;rw[this]at Qz;cases Qz
    ·refine⟨_,bM.enc cur,W6 hM hn (bm xm.snap (dc _)) hc hv,?_,by rw[aO,f0];exact aB _⟩
     have cq:id∈F:=by
      obtain⟨d,ho,_,_,he⟩:=hx
      cases d with
      |s sz ds=>
       simp only[bP]at ho;rcases ho with⟨_,_,h|h⟩|⟨yu,vs,Fs,h,_,_,hF⟩
       ·cases h
       ·cases h
       ·injection h with h;rw[hF,h];simp
      |a sz ds=>
       simp only[bP]at ho;rcases ho with⟨_,_,h⟩|⟨yu,vs,Fs,h,_,_,hF⟩
       ·cases h
       ·injection h with h;rw[hF,h];simp
      |v y=>simp only[bP]at ho;rw[<-ho.1]at he;cases he
      |i y=>simp only[bP,i64]at ho;cases ho.1
      |b y=>simp only[bP]at ho;cases ho.1
      |p q=>obtain⟨cs,hc⟩:=sh q;simp only[ba.enc,hc,bM.enc]at he;cases he
      |g ds=>simp[ba.enc,bM.enc]at he
     have mY:snap (fg (fun i=>!eO h [af.agg [af.own id 0 cur.length]] i) 0 h) (.own id 0 cur.length)=some (bM.enc cur):=by
      obtain⟨d,ho,_,hd,he⟩:=xm;rw[<-he];exact ho.snap (by omega)
     refine ah.My cur ?_;have S3:=(S2.drop 0).calm (h1:=fg (fun i=>!eO h [af.agg [af.own id 0 cur.length]] i) 0 h) (p:=eO h [af.agg [af.own id 0 cur.length]]) hL;have hk:(fg (eO h [af.agg [af.own id 0 cur.length]]) 0 h)[k]?=some (.box (.agg [.own id 0 cur.length])):=S2.row 0 rfl;have ZV:=(Jf id).2 cq;refine⟨fun i c hi=>?_,fun i j c e xl hi hj=>?_⟩
     ·match i,hi with
      |0,hi=>
       simp at hi;subst hi;refine⟨?_,(S2.get' 0 _ rfl).2⟩;show(List.map _ _)[k]?=some _;rw[List.getElem?_map,hk]
       simp only[bh,w8,aM,List.map_nil,J8,ZV,mY]
      |i+1,hi=>exact S3.get' i c (by simpa using hi)
     ·match i,j,hi,hj with
      |0,0,_,_=>exact absurd rfl xl
      |0,j+1,hi,hj=>simp at hi;subst hi;exact S2.apart 0 (j+1) (.row k (.box (.agg [.own id 0 cur.length]))) e xl rfl (by simpa using hj)
      |i+1,0,hi,hj=>simp at hj;subst hj;exact S2.apart (i+1) 0 c (.row k (.box (.agg [.own id 0 cur.length]))) xl (by simpa using hi) rfl
      |i+1,j+1,hi,hj=>exact S2.apart (i+1) (j+1) c e xl (by simpa using hi) (by simpa using hj)
def tl(xs:List (List Item)):Nat:=(xs.map List.length).sum
def UB(n:Nat)(xs:List (List Item)):Prop:=tl xs<=n/\ ∀r∈xs,∀x∈r,x.row.length<=cM
theorem qx{α:Type}{xs:List α}(h:2<=xs.length): ∃A y z,xs=A++[y,z]:=by
 have h1:(xs.drop (xs.length-2)).length=2:=by simp;omega
 match e:xs.drop (xs.length-2),h1 with
 | [y,z],_=>exact⟨xs.take (xs.length-2),y,z,by rw[<-e,List.take_append_drop]⟩
theorem u0(A:List (List Item))(y z:List Item):fP (A++[y,z])=A++(if ct y z=[]then []else [ct y z]):=by
 have h1:(A++[y,z]).length-2=A.length:=by simp
 unfold fP;rw[h1,List.drop_left,List.take_left'];rfl
theorem nu{xs:List (List Item)}(h:2<=xs.length):(fP xs).length<xs.length:=by
 obtain⟨A,y,z,rfl⟩:=qx h;rw[u0];split<;>simp
theorem Jg{xs:List (List Item)}{r:List Item}(h:r∈xs):r.length<=tl xs:=by
 induction xs with
 |nil=>simp at h
 |cons y ys ih=>
  simp only[tl,aM,List.sum_cons];rcases aW.1 h with rfl|h
  ·omega
  ·have:=ih h;simp only[tl]at this;omega
theorem mM{n:Nat}{xs:List (List Item)}(h:2<=xs.length)(hr:UB n xs):UB n (fP xs):=by
 obtain⟨A,y,z,rfl⟩:=qx h;obtain⟨h1,h2⟩:=hr;have hs:=fp (a:=y) (b:=z) (h2 y (by simp)) (h2 z (by simp));rw[u0];simp only[tl,bd,aM,List.map_nil,List.sum_append,List.sum_cons,List.sum_nil]at h1;split
 ·refine⟨by simp only[tl,bd,List.map_nil,aU];omega,fun r hr=>h2 r (by rw[aU]at hr;simp[hr])⟩
 ·refine⟨by simp only[tl,bd,aM,List.map_nil,List.sum_append,List.sum_cons,List.sum_nil];omega,fun r hr=>?_⟩;rcases bu.1 hr with hr|hr
  ·exact h2 r (by simp[hr])
  ·simp at hr;subst hr;exact hs.2
theorem z7{n:Nat}{xs:List (List Item)}(hn:n<=1000)(hl:xs.length<=1000)(hr:UB n xs):xD xs:=
 ⟨by simp[cM];omega,fun z hz=>⟨by have:=Jg hz;have:=hr.1;simp[cM];omega,hr.2 z hz⟩⟩
theorem PM{xs:List (List Item)}(hl:xs.length<=10)(hz: ∀z∈xs,c7 z=true):UB 1000 xs:=by
 refine⟨?_,fun z h=>(cF (hz z h)).2⟩
 have key: ∀ys:List (List Item),(∀z∈ys,c7 z=true)->tl ys<=100*ys.length:=by
  intro ys
  induction ys with
  |nil=>intro _;simp[tl]
  |cons y ys ih=>
   intro h;have h1:=ih fun z hz=>h z (by simp[hz]);have h2:=(cE (h y (by simp))).1;simp only[tl,aM,List.sum_cons,aJ]at h1⊢;omega
 have:=key xs hz;omega
theorem pE(hp:bV pr)(cur:List (List Item))(h2:2<=cur.length)(hl:cur.length<=10)(hr:UB 1000 cur):DG pr 151 [.agg [bM.enc cur]] (.agg [bM.enc (fP cur)]):=by
 have hs:=z7 (aB _) (by omega) hr;obtain⟨A,y,z,rfl⟩:=qx h2;obtain⟨h1,h3⟩:=hr;have hy:=hs.2 y (by simp);have hz:=hs.2 z (by simp);have hm:=Jg (xs:=A++[y,z]) (r:=y) (by simp);have Nk:=Jg (xs:=A++[y,z]) (r:=z) (by simp)
 have:=(PK hp A y z hy hz (by simp[cM];omega) (by simp at hl;omega)).toV (by
  split
  ·simp only[ba.dep,ba.cZ,aU];have: ∀(xs:List (List Item)),ba.cZ (bM.v xs)=1:=by intro xs;induction xs with|nil=>rfl|cons x xs ih=>simp only[bM.v,aM,ba.cZ,ba.dep]at ih⊢;omega
   rw[this];omega
  ·have:=tM A _ (j0 (ct y z));simp only[ba.dep,ba.cZ];omega)
 rw[show(ba.g [.s 1 (bM.v A++(if ct y z=[]then []else [aE.d (ct y z)]))]).enc= .agg [bM.enc (fP (A++[y,z]))]from ?_]at this
 ·exact this
 ·rw[u0];simp only[ba.enc,ba.sL,af.cells,aU,bM.enc,ba.nb,bd,bM.v,List.map_map];split<;>simp[aE.eD,ba.enc,Function.comp_def]
theorem KT{pr:bL}(hp:bV pr){f:FuncId}{args:List af}{x:af}(hn:plain f=true)(hw:wv (du pr) f args [] (fun r=>∃v h,r= .ret v h/\Am.snap h v=some x)):DG pr f args x:=by
 obtain⟨r,hr,v,h,rfl,h1⟩:=cS (hp.out f hn) hw;exact⟨v,h,hr,h1⟩
theorem ah.ZW{h:aC}{L:List Chunk}{A:List (List Item)}{z:List Item}{D w:af}{F3:List Nat}(S:ah h (.acc Ny 1 (A.map aE.enc++[w]) D:: .iA 2 (z.map Item.d) w F3::L)): ∃F,ah h (.xr (A++[z]) D F::L):=by
 have S0:=ah.dv S.swap;have S1:=(S0.swap.more (c:=.dy (bM.v A) (A.map aE.enc) []) (List.prefix_refl _) (DH A) (by simp[Chunk.dy]) (by simp[Chunk.dy])).front 2 rfl;dsimp only[List.eraseIdx]at S1;have S2:=(ah.snoc S1).swap;obtain⟨F,S3⟩:=ah.PI S2;have S4:=ah.dv S3;refine⟨F,S4.is (c':=.xr (A++[z]) D F) ⟨.s 1 (bM.v A++[aE.d z]),S4.get 0 rfl,z6 _ _ (wD z),?_,?_⟩ rfl⟩
 ·have:=tM A (aE.d z) (j0 z);simp only[ba.dep];omega
 ·simp only[ba.enc,bM.enc,ba.nb,bd,bM.v,List.map_map,aM,List.map_nil,aE.eD];simp[ba.enc,Function.comp_def]
theorem RT(hp:bV pr)(bx:List (List Item))(z:List Item)(hl:bx.length<=5)(hr: ∀r∈bx,c7 r=true)(hz:c7 z=true):
  DG pr 150 [.agg [bM.enc bx],aE.enc z] (.dX [.agg [bM.enc (nX bx z).1],.bool (nX bx z).2]):=by
   have aN:nX bx z=nX bx z:=rfl;conv at aN=>rhs;unfold nX
   generalize nX bx z=res at aN⊢;have h1:=kF hp z (cF hz);have aD: ∀r∈bx++[z],c7 r=true:=by intro r h;rcases bu.1 h with h|h;exact hr r h;simp at h;subst h;exact hz
   have je:gi (gX (bx++[z])):=by
    have h:=uS aD;refine⟨?_,h.2⟩;have h3:=h.1;simp at h3;simp only[cM];omega
   have h2:=uT hp (bx++[z]) (by intro r h;rcases bu.1 h with h|h;exact hr r h;simp at h;subst h;exact hz) (by simp;omega);refine KT hp rfl ?_;have S:ah [] []:=ah.nil [];conv=>whnf
   intro k1 a1 dw dC;replace S:=S.alloc dw dC;conv=>whnf
   intro k2 a2 jf iB;replace S:=S.alloc jf iB;conv=>whnf
   refine ae (fun h0=>?_) (fun h0=>?_)
   ·have tL:z=[]:=by simpa using h0
    have e:res=(bx,true):=by rw[aN,if_pos tL]
    clear aN;subst e;conv=>whnf
    refine aI (S.row 1 rfl) ?_;conv=>whnf
    conv=>whnf
    refine⟨_,rfl,rfl,rfl,.inl ⟨_,S.row 0 rfl,rfl,?_⟩⟩;conv=>whnf
    intro a3 lS;replace S:=S.w0 lS;conv=>whnf
    exact⟨_,aR rfl rfl (S.row 0 rfl) rfl rfl,_,_,rfl,rfl⟩
   ·have tL:z≠[]:=by intro e;subst e;simp at h0
    rw[if_neg tL]at aN;conv=>whnf
    refine aI (S.row 1 rfl) ?_;conv=>whnf
    conv=>whnf
    refine⟨trivial,?_⟩;conv=>whnf
    refine⟨bx.map aE.enc,rfl,by rw[List.all_map,aG];intro _ _;rfl,?_⟩;rw[<-DF (bx.map aE.enc)];refine jA (ah.ma Ny 1 S) (by simp[br];omega) fun D1 w1 Ec S1=>?_;have hc:D1.cells=[D1]:=by rcases Ec with rfl|⟨_,rfl⟩<;>rfl
    replace S:=S1;clear S1;rw[List.nil_append]at S Ec;conv=>whnf
    refine cI S h1 rfl rfl fun w q1 F3 S1=>?_;clear S h1;have S:=S1;clear S1;have ow:bP q1 (aE.d z) w F3:=(ah.dv S).get 0 rfl;conv=>whnf
    refine dE ow.cell.1 ?_;conv=>whnf
    intro nM nN de dg;replace S:=S.alloc de dg;conv=>whnf
    refine⟨trivial,?_⟩;conv=>whnf
    refine⟨[_],bG (S.row 0 rfl),cQ ow.cell.1 ow.cell.2,?_⟩;replace S:=S.drop 0;dsimp only[List.eraseIdx]at S;refine oQ (f:=Ny) (x:=w) S.swap (by simp[br];omega) fun k4 a5 S2 _=>?_;clear S;have S:=S2;clear S2;conv=>whnf
    intro k5 a6 DI qf;replace S:=S.alloc DI qf;conv=>whnf
    refine⟨_,rfl,rfl,rfl,.inl ⟨_,S.row 0 rfl,rfl,?_⟩⟩;conv=>whnf
    intro a7 PL;replace S:=S.w0 PL;conv=>whnf
    have S':ah a7 [.row k5 (.box (.agg [.own k4 0 (bx.map aE.enc++[w]).length])),.acc Ny 1 (bx.map aE.enc++[w]) (.own k4 0 (bx.map aE.enc++[w]).length),.iA 2 (z.map Item.d) w F3,.row k2 (.box (.agg [.nil])),.row k1 (.box (.agg [bM.enc bx]))]:=S;clear S;have S:=S';clear S';conv=>whnf
    refine aI (S.row 0 rfl) ?_;conv=>whnf
    conv=>whnf
    replace S:=S.pick [1,2,0,3,4] (by decide);simp only[kB,List.getElem?_cons_zero,List.getElem?_cons_succ]at S;obtain⟨F0,S1⟩:=ah.ZW S;replace S:=S1;clear S1;generalize af.own k4 0 (bx.map aE.enc++[w]).length=D at S⊢;have hx:XR a7 (bx++[z]) D F0:=S.get 0 rfl;refine cI S h2 rfl (bm hx.snap rfl) fun u q2 F4 S1=>?_;have hu:bP q2 (aE.d (gX (bx++[z]))) u F4:=(ah.dv S1).get 0 rfl;clear S h2 hx;have S:=S1.drop 0;dsimp only[List.eraseIdx]at S;clear S1;conv=>whnf
    refine⟨_,dm.here (gu hp _ je) (bm (aE.fU hu) rfl) rfl rfl,?_⟩;clear hu;conv=>whnf
    refine ae (fun g1=>?_) (fun g1=>?_)
    ·rw[if_pos g1]at aN;conv=>whnf
     have PN:=PM (xs:=bx++[z]) (by simp;omega) aD;obtain⟨T,hT0⟩: ∃T,iY (bx.length+1) (bx++[z])=T:=⟨_,rfl⟩;rw[hT0]at aN;refine dh (fun m tm hp=>∃(cur:List (List Item))(D:af)(F:List Nat),cur.length<=m/\iY m cur=T/\UB 1000 cur/\cur.length<=10/\ah hp [.xr cur D F,.row k5 (.box (.agg [D])),.row k2 (.box (.agg [.nil])),.row k1 (.box (.agg [bM.enc bx]))]) (fun m tm hq bz hI=>?_) (bx.length+1) ⟨bx++[z],D,F0,by simp,hT0,PN,by simp;omega,S⟩;clear S PN;obtain⟨cur,E,F1,hm,hT,vE,Jh,S⟩:=hI;have e2:=bz 2 (by kernel_rfl);conv at e2=>rhs;whnf
     have e4:=bz 4 (by kernel_rfl);conv at e4=>rhs;whnf
     have e6:=bz 6 (by kernel_rfl);conv at e6=>rhs;whnf
     refine⟨[(2,_),(4,_),(6,_)],⟨e2,e4,e6,trivial⟩,?_⟩;clear bz e2 e4 e6;conv=>whnf
     refine aI (S.row 1 rfl) ?_;conv=>whnf
     have hx:XR hq cur E F1:=S.get 0 rfl;have fm:=z7 (aB _) (by omega) vE;have dt:bN (du pr) (call (du pr)) 127 [.agg [E]] hq=some (.ret (.bool (en cur)) hq):=dm.here (h:=hq) (pA hp cur fm) (bm hx.snap rfl) rfl rfl;have KU:bN (du pr) (call (du pr)) 161 [.agg [E]] hq=some (.ret (.bool (xG cur)) hq):=dm.here (h:=hq) (PH hp cur fm) (bm hx.snap rfl) rfl rfl
     have z8: ∀c∈[Chunk.row k2 (.box (.agg [.nil])),Chunk.row k1 (.box (.agg [bM.enc bx]))],Calm c:=by
      intro c hc;simp only[aW,List.not_mem_nil,or_false]at hc;rcases hc with rfl|rfl<;>exact Gx fun _ _=>rfl
     have RU:2<=cur.length->(5<cur.length∨(1<cur.length/\en cur=false))->iY (m-1) (fP cur)=T:=fun vF hc=>by
      rw[<-hT];conv=>rhs;rw[show m=(m-1)+1 by omega]
      unfold iY;rw[if_pos hc];cases m-1<;>rfl
     have u9: ¬(5<cur.length∨(1<cur.length/\en cur=false))->cur=T:=fun hc=>by
      rw[<-hT]
      cases m with
      |zero=>rfl
      |succ m=>unfold iY;rw[if_neg hc]
     rcases hx.cases with⟨rfl,hn⟩|rfl|⟨id,rfl⟩
     ·have iO:cur.length=0:=by rw[hn];rfl
      have cY:cur=T:=u9 (by omega);conv=>whnf
      refine aI (S.row 1 rfl) ?_;conv=>whnf
      conv=>whnf
      refine aI (S.row 1 rfl) ?_;conv=>whnf
      refine⟨_,KU,?_⟩;clear dt KU;conv=>whnf
      refine ae (fun g6=>?_) (fun g6=>?_)
      ·have e:res=(cur,true):=by rw[aN,<-cY,if_pos g6]
       clear aN;subst e;conv=>whnf
       refine aI (S.row 1 rfl) ?_;conv=>whnf
       conv=>whnf
       refine⟨_,rfl,rfl,rfl,.inl ⟨_,S.row 2 rfl,rfl,?_⟩⟩;conv=>whnf
       intro a8 eE;replace S:=S.w2 eE;conv=>whnf
       exact⟨_,aR rfl rfl (S.row 2 rfl) rfl rfl,_,_,rfl,XR.rO (S.get 0 rfl) _⟩
      ·have e:res=(bx,false):=by rw[aN,<-cY,if_neg (by simp[g6])]
       clear aN;subst e;conv=>whnf
       refine aI (S.row 3 rfl) ?_;conv=>whnf
       conv=>whnf
       refine⟨_,rfl,rfl,rfl,.inl ⟨_,S.row 2 rfl,rfl,?_⟩⟩;conv=>whnf
       intro a8 eE;replace S:=S.w2 eE;conv=>whnf
       exact⟨_,aR rfl rfl (S.row 2 rfl) rfl rfl,_,_,rfl,rfl⟩
     ·conv=>whnf
      refine ae (fun g2=>?_) (fun g2=>?_)
      ·have vF:2<=cur.length:=by simp at g2;omega
       have cY:=RU vF (.inl (by simp at g2;omega));obtain⟨q3,D3,qy,S3,_⟩:=wE rfl S z8 (pE hp cur vF Jh vE);have eH:=nu vF;have wF:=mM vF vE;conv=>whnf
       refine aI (S.row 1 rfl) ?_;conv=>whnf
       refine⟨_,qy,?_⟩;clear S qy dt KU hx;have S:=ah.My (fP cur) (S3.drop 0);clear S3;conv=>whnf
       refine⟨_,rfl,rfl,rfl,.inl ⟨_,S.row 1 rfl,rfl,?_⟩⟩;conv=>whnf
       intro a9 z9;replace S:=S.w1 z9;conv=>whnf
       exact⟨m-1,by omega,fP cur,_,_,by omega,cY,wF,by omega,S⟩
      ·conv=>whnf
       refine aI (S.row 1 rfl) ?_;conv=>whnf
       refine ae (fun g4=>?_) (fun g4=>?_)
       ·have vF:2<=cur.length:=by simp at g4;omega
        conv=>whnf
        refine aI (S.row 1 rfl) ?_;conv=>whnf
        refine⟨_,dt,?_⟩;conv=>whnf
        refine ae (fun g5=>?_) (fun g5=>?_)
        ·have cY:cur=T:=u9 (by intro h;rcases h with h|⟨_,h⟩;simp at g2;omega;rw[g5]at h;cases h);conv=>whnf
         refine aI (S.row 1 rfl) ?_;conv=>whnf
         refine⟨_,KU,?_⟩;clear dt KU;conv=>whnf
         refine ae (fun g6=>?_) (fun g6=>?_)
         ·have e:res=(cur,true):=by rw[aN,<-cY,if_pos g6]
          clear aN;subst e;conv=>whnf
          refine aI (S.row 1 rfl) ?_;conv=>whnf
          conv=>whnf
          refine⟨_,rfl,rfl,rfl,.inl ⟨_,S.row 2 rfl,rfl,?_⟩⟩;conv=>whnf
          intro a8 eE;replace S:=S.w2 eE;conv=>whnf
          exact⟨_,aR rfl rfl (S.row 2 rfl) rfl rfl,_,_,rfl,XR.rO (S.get 0 rfl) _⟩
         ·have e:res=(bx,false):=by rw[aN,<-cY,if_neg (by simp[g6])]
          clear aN;subst e;conv=>whnf
          refine aI (S.row 3 rfl) ?_;conv=>whnf
          conv=>whnf
          refine⟨_,rfl,rfl,rfl,.inl ⟨_,S.row 2 rfl,rfl,?_⟩⟩;conv=>whnf
          intro a8 eE;replace S:=S.w2 eE;conv=>whnf
          exact⟨_,aR rfl rfl (S.row 2 rfl) rfl rfl,_,_,rfl,rfl⟩
        ·have cY:=RU vF (.inr ⟨by omega,g5⟩);obtain⟨q3,D3,qy,S3,_⟩:=wE rfl S z8 (pE hp cur vF Jh vE);have eH:=nu vF;have wF:=mM vF vE;conv=>whnf
         refine aI (S.row 1 rfl) ?_;conv=>whnf
         refine⟨_,qy,?_⟩;clear S qy dt KU hx;have S:=ah.My (fP cur) (S3.drop 0);clear S3;conv=>whnf
         refine⟨_,rfl,rfl,rfl,.inl ⟨_,S.row 1 rfl,rfl,?_⟩⟩;conv=>whnf
         intro a9 z9;replace S:=S.w1 z9;conv=>whnf
         exact⟨m-1,by omega,fP cur,_,_,by omega,cY,wF,by omega,S⟩
       ·have cY:cur=T:=u9 (by intro h;simp at g2 g4;omega);conv=>whnf
        refine aI (S.row 1 rfl) ?_;conv=>whnf
        refine⟨_,KU,?_⟩;clear dt KU;conv=>whnf
        refine ae (fun g6=>?_) (fun g6=>?_)
        ·have e:res=(cur,true):=by rw[aN,<-cY,if_pos g6]
         clear aN;subst e;conv=>whnf
         refine aI (S.row 1 rfl) ?_;conv=>whnf
         conv=>whnf
         refine⟨_,rfl,rfl,rfl,.inl ⟨_,S.row 2 rfl,rfl,?_⟩⟩;conv=>whnf
         intro a8 eE;replace S:=S.w2 eE;conv=>whnf
         exact⟨_,aR rfl rfl (S.row 2 rfl) rfl rfl,_,_,rfl,XR.rO (S.get 0 rfl) _⟩
        ·have e:res=(bx,false):=by rw[aN,<-cY,if_neg (by simp[g6])]
         clear aN;subst e;conv=>whnf
         refine aI (S.row 3 rfl) ?_;conv=>whnf
         conv=>whnf
         refine⟨_,rfl,rfl,rfl,.inl ⟨_,S.row 2 rfl,rfl,?_⟩⟩;conv=>whnf
         intro a8 eE;replace S:=S.w2 eE;conv=>whnf
         exact⟨_,aR rfl rfl (S.row 2 rfl) rfl rfl,_,_,rfl,rfl⟩
     ·conv=>whnf
      refine ae (fun g2=>?_) (fun g2=>?_)
      ·have vF:2<=cur.length:=by simp at g2;omega
       have cY:=RU vF (.inl (by simp at g2;omega));obtain⟨q3,D3,qy,S3,_⟩:=wE rfl S z8 (pE hp cur vF Jh vE);have eH:=nu vF;have wF:=mM vF vE;conv=>whnf
       refine aI (S.row 1 rfl) ?_;conv=>whnf
       refine⟨_,qy,?_⟩;clear S qy dt KU hx;have S:=ah.My (fP cur) (S3.drop 0);clear S3;conv=>whnf
       refine⟨_,rfl,rfl,rfl,.inl ⟨_,S.row 1 rfl,rfl,?_⟩⟩;conv=>whnf
       intro a9 z9;replace S:=S.w1 z9;conv=>whnf
       exact⟨m-1,by omega,fP cur,_,_,by omega,cY,wF,by omega,S⟩
      ·conv=>whnf
       refine aI (S.row 1 rfl) ?_;conv=>whnf
       refine ae (fun g4=>?_) (fun g4=>?_)
       ·have vF:2<=cur.length:=by simp at g4;omega
        conv=>whnf
        refine aI (S.row 1 rfl) ?_;conv=>whnf
        refine⟨_,dt,?_⟩;conv=>whnf
        refine ae (fun g5=>?_) (fun g5=>?_)
        ·have cY:cur=T:=u9 (by intro h;rcases h with h|⟨_,h⟩;simp at g2;omega;rw[g5]at h;cases h);conv=>whnf
         refine aI (S.row 1 rfl) ?_;conv=>whnf
         refine⟨_,KU,?_⟩;clear dt KU;conv=>whnf
         refine ae (fun g6=>?_) (fun g6=>?_)
         ·have e:res=(cur,true):=by rw[aN,<-cY,if_pos g6]
          clear aN;subst e;conv=>whnf
          refine aI (S.row 1 rfl) ?_;conv=>whnf
          conv=>whnf
          refine⟨_,rfl,rfl,rfl,.inl ⟨_,S.row 2 rfl,rfl,?_⟩⟩;conv=>whnf
          intro a8 eE;replace S:=S.w2 eE;conv=>whnf
          exact⟨_,aR rfl rfl (S.row 2 rfl) rfl rfl,_,_,rfl,XR.rO (S.get 0 rfl) _⟩
         ·have e:res=(bx,false):=by rw[aN,<-cY,if_neg (by simp[g6])]
          clear aN;subst e;conv=>whnf
          refine aI (S.row 3 rfl) ?_;conv=>whnf
          conv=>whnf
          refine⟨_,rfl,rfl,rfl,.inl ⟨_,S.row 2 rfl,rfl,?_⟩⟩;conv=>whnf
          intro a8 eE;replace S:=S.w2 eE;conv=>whnf
          exact⟨_,aR rfl rfl (S.row 2 rfl) rfl rfl,_,_,rfl,rfl⟩
        ·have cY:=RU vF (.inr ⟨by omega,g5⟩);obtain⟨q3,D3,qy,S3,_⟩:=wE rfl S z8 (pE hp cur vF Jh vE);have eH:=nu vF;have wF:=mM vF vE;conv=>whnf
         refine aI (S.row 1 rfl) ?_;conv=>whnf
         refine⟨_,qy,?_⟩;clear S qy dt KU hx;have S:=ah.My (fP cur) (S3.drop 0);clear S3;conv=>whnf
         refine⟨_,rfl,rfl,rfl,.inl ⟨_,S.row 1 rfl,rfl,?_⟩⟩;conv=>whnf
         intro a9 z9;replace S:=S.w1 z9;conv=>whnf
         exact⟨m-1,by omega,fP cur,_,_,by omega,cY,wF,by omega,S⟩
       ·have cY:cur=T:=u9 (by intro h;simp at g2 g4;omega);conv=>whnf
        refine aI (S.row 1 rfl) ?_;conv=>whnf
        refine⟨_,KU,?_⟩;clear dt KU;conv=>whnf
        refine ae (fun g6=>?_) (fun g6=>?_)
        ·have e:res=(cur,true):=by rw[aN,<-cY,if_pos g6]
         clear aN;subst e;conv=>whnf
         refine aI (S.row 1 rfl) ?_;conv=>whnf
         conv=>whnf
         refine⟨_,rfl,rfl,rfl,.inl ⟨_,S.row 2 rfl,rfl,?_⟩⟩;conv=>whnf
         intro a8 eE;replace S:=S.w2 eE;conv=>whnf
         exact⟨_,aR rfl rfl (S.row 2 rfl) rfl rfl,_,_,rfl,XR.rO (S.get 0 rfl) _⟩
        ·have e:res=(bx,false):=by rw[aN,<-cY,if_neg (by simp[g6])]
         clear aN;subst e;conv=>whnf
         refine aI (S.row 3 rfl) ?_;conv=>whnf
         conv=>whnf
         refine⟨_,rfl,rfl,rfl,.inl ⟨_,S.row 2 rfl,rfl,?_⟩⟩;conv=>whnf
         intro a8 eE;replace S:=S.w2 eE;conv=>whnf
         exact⟨_,aR rfl rfl (S.row 2 rfl) rfl rfl,_,_,rfl,rfl⟩
    ·have e:res=(bx,false):=by rw[aN,if_neg (by simp[g1])]
     clear aN;subst e;conv=>whnf
     refine aI (S.row 3 rfl) ?_;conv=>whnf
     conv=>whnf
     refine⟨_,rfl,rfl,rfl,.inl ⟨_,S.row 2 rfl,rfl,?_⟩⟩;conv=>whnf
     intro a8 eE;replace S:=S.w2 eE;conv=>whnf
     exact⟨_,aR rfl rfl (S.row 2 rfl) rfl rfl,_,_,rfl,rfl⟩
end Go.Proofs.YtfepbikckfehlaaGreat

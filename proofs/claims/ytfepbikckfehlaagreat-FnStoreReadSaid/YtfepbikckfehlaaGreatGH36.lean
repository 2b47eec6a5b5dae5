/- A flow's runs merged: the reference's. -/
import Derived.Test.YtfepbikckfehlaaGreatGH35
set_option linter.unusedVariables false
set_option linter.unusedSimpArgs false
set_option maxHeartbeats 4000000
namespace Go.Proofs.YtfepbikckfehlaaGreat
open Go Go.Am
variable{pr:bL}(hp:bV pr)
set_option maxRecDepth 100000
theorem rV{ws:List Int}: ∀(d:Nat)(f:bA)(w:Int),lA ws d f w->f.d.dep<=200030+2*d
 |0,f,w,h=>h.elim
 |d+1,.mk (.mk aw n aA cells a b ao agg col qs) l r ks,w,h=>by
  obtain⟨h1,_,_,_,_,_,wk,h7,_,h9⟩:=h;have h2:=gM l;have h3:=gM r
  have key: ∀xs:List bA,(∀k∈xs,k.d.dep<=200030+2*d)->ba.cZ (bA.ds xs)<=200030+2*d:=by
   intro xs
   induction xs with
   |nil=>intro _;simp only[bA.ds,ba.cZ];omega
   |cons x xs ih=>intro h;have:=ih fun k hk=>h k (by simp[hk]);have:=h x (by simp);simp only[bA.ds,ba.cZ];omega
  have h4:=key ks fun k hk=>by
   obtain⟨i,hi,rfl⟩:=List.mem_iff_getElem.1 hk;exact rV d _ _ (h9 i _ wk[i] (au hi) (au (by omega)))
  simp only[bA.d,ba.dep,ba.cZ];omega
theorem eu{P:Program}{fn:Func}{st:St}{d t k a b:Nat}{x v u w:af}(hr:fn.results.toList=[.cell d t,.tmp a,.tmp b])(ht:st.tm d= .ptr k 0 0)(hk:st.hp[k]?=some (.box x))(hv:ff P t x 0=some v)(hu:st.tm a=u)(hw:st.tm b=w):oZ P fn (some (.ret st))=some (.ret (.dX [v,u,w]) st.hp):=by
 have h1:i6 P st (.cell d t)=some v:=by
  simp only[i6,ht,jq,hk,if_true,hv]
 have h2:i6 P st (.tmp a)=some u:=by simp only[i6,hu]
 have h3:i6 P st (.tmp b)=some w:=by simp only[i6,hw]
 simp only[oZ,hr,cp,h1,h2,h3,bh];rfl
theorem kO{α:Type}{A B:List α}{x y:α}{j:Nat}(h:A.length=j):(A++x::B).set j y=A++y::B:=by
 subst h;rw[List.set_append_right _ _ (aB _),Nat.sub_self];rfl
theorem ah.Cq{h:aC}{L:List Chunk}{A B:List ba}{d:ba}{vs:List af}{F:List Nat}(S:ah h (.dy (A++d::B) vs F::L)):
  ∃VA v VB FA G FB,vs=VA++v::VB/\VA.length=A.length/\ah h (.cU d v G:: .dy A VA FA:: .dy B VB FB::L):=by
   obtain⟨v1,v2,F1,F2,rfl,rfl,h1,h2⟩:=nf (show bZ h (A++d::B) vs F from S.get 0 rfl);simp only[bZ]at h2;obtain⟨v,eo,G1,G2,rfl,rfl,h3,h4⟩:=h2;refine⟨v1,v,eo,F1,G1,G2,rfl,gb h1,((S.O3 [.dy A v1 F1,.cU d v G1,.dy B eo G2] (by simp[Chunk.dy,Chunk.cU]) ?_)).swap⟩;intro e he;simp only[aW,List.not_mem_nil,or_false]at he;rcases he with rfl|rfl|rfl
   ·exact h1
   ·exact h3
   ·exact h4
theorem ah.Bq{h:aC}{L:List Chunk}{A B:List ba}{d:ba}{VA VB:List af}{v:af}{FA G FB:List Nat}(S:ah h (.cU d v G:: .dy A VA FA:: .dy B VB FB::L)):ah h (.dy (A++d::B) (VA++v::VB) (FA++(G++FB))::L):=by
 have S1:=S.swap;refine ah.Tj [.dy A VA FA,.cU d v G,.dy B VB FB] S1 ?_ (by simp[Chunk.dy,Chunk.cU]);refine jY (S1.get 0 rfl) ?_;simp only[bZ];exact⟨v,VB,G,FB,rfl,rfl,S1.get 1 rfl,S1.get 2 rfl⟩
theorem xU{aH:List (List Item)}: ∀{xs:List bA}{k:bA},ix (xs++[k]) aH=(match ix xs aH with
 |none=>none
 |some (a,o)=>match hH k aH with
  |none=>none
  |some (k',d)=>some (a++[k'],o++[d]))
 | [],k=>by
  simp only[List.nil_append,ix]
  cases hH k aH<;>rfl
 |x::xs,k=>by
  simp only[List.cons_append,ix,xU (xs:=xs) (k:=k)]
  cases hH x aH with
  |none=>rfl
  |some p=>
   cases ix xs aH with
   |none=>rfl
   |some q=>
    cases hH k aH<;>rfl
theorem xV{aH:List (List Item)}: ∀{xs ys:List bA},ix xs aH=none->ix (xs++ys) aH=none
 | [],ys,h=>by simp[ix]at h
 |x::xs,ys,h=>by
  simp only[List.cons_append,ix]at h⊢
  cases h1:hH x aH with
  |none=>rfl
  |some p=>
   rw[h1]at h;simp only at h⊢
   cases h2:ix xs aH with
   |none=>rw[xV h2]
   |some q=>rw[h2]at h;cases h
theorem DS{ws:List Int}{aH:List (List Item)}(ht: ∀(i:Nat) z v,aH[i]?=some z->ws[i]?=some v->c7 z=true/\dH v z){d:Nat}{ks pc:List bA}{outs:List (List Item)}{wk:List Int}(h7:wk.length=ks.length)(h9: ∀(i:Nat) k v,ks[i]?=some k->wk[i]?=some v->lA ws d k v)
  (hs:ix ks aH=some (pc,outs)):pc.length=ks.length/\outs.length=wk.length/\pc.map bA.dx=ks.map bA.dx/\(∀(i:Nat) k v,pc[i]?=some k->wk[i]?=some v->lA ws d k v)/\(∀(i:Nat) z v,outs[i]?=some z->wk[i]?=some v->c7 z=true/\dH v z)/\ ∀z∈outs,c7 z=true:=by
   obtain⟨g1,g2,g3⟩:=nF hs
   have JF: ∀(i:Nat) v,wk[i]?=some v-> ∃k k' o,ks[i]?=some k/\pc[i]?=some k'/\outs[i]?=some o/\lA ws d k' v/\c7 o=true/\dH v o/\k'.dx=k.dx:=fun i v hv=>by
    have hi:i<ks.length:=by rw[<-h7];exact(az.1 hv).1
    obtain⟨k',o,e1,e2,e3⟩:=g3 i ks[i] (au hi);obtain⟨q1,q2,q3,q4⟩:=sB ht d _ _ v _ (h9 i _ v (au hi) hv) e1;exact⟨_,_,_,au hi,e2,e3,q1,q2,q3,q4⟩
   have ho: ∀(i:Nat) z v,outs[i]?=some z->wk[i]?=some v->c7 z=true/\dH v z:=fun i z v hz hv=>by
    obtain⟨k,k',o,_,_,e3,_,q2,q3,_⟩:=JF i v hv;rw[hz]at e3;cases e3;exact⟨q2,q3⟩
   refine⟨g1,by omega,?_,fun i k v hk hv=>?_,ho,fun z hz=>?_⟩
   ·apply List.ext_getElem?;intro i;rw[List.getElem?_map,List.getElem?_map]
    by_cases hi:i<ks.length
    ·obtain⟨k,k',o,e1,e2,_,_,_,_,q4⟩:=JF i wk[i] (au (by omega));rw[e1,e2];simp[q4]
    ·rw[List.getElem?_eq_none (by omega),List.getElem?_eq_none (by omega)]
   ·obtain⟨k2,k',o,_,e2,_,q1,_⟩:=JF i v hv;rw[hk]at e2;cases e2;exact q1
   ·obtain⟨i,hi,rfl⟩:=List.mem_iff_getElem.1 hz;exact(ho i _ wk[i] (au hi) (au (by omega))).1
theorem qE{ws:List Int}{aw n:Int}{cells:List Cell}{ao:List Int}{l r:List (List Item)}{wk:List Int}{w:Int}(h:wP ws aw n cells ao l r wk w):(aw=1->0<=n)/\Ak aw<=wk.length/\(aw=4->2<=wk.length)/\(aw=6∨aw=7->1<=wk.length)/\wk.length<=2:=by
 rcases h with⟨rfl,Jq,rfl,hw⟩|⟨rfl,rfl⟩|⟨rfl,h3,rfl⟩|⟨rfl,a',b',rfl,rfl,gl,gr⟩|⟨rfl,rfl⟩|⟨rfl,rfl,gl⟩|⟨rfl,rfl,a',rfl,gl⟩<;>simp[Ak]<;>omega
def fQ(aH:List (List Item))(aw n:Int)(aA:Test)(cells:List Cell)(a b:Int)(ao:List Int)(agg col:Int)(qs:List ax)(l r:List (List Item))(ks:List bA)(Q:List Chunk)(res:dz):Prop:=
 match hH (.mk (.mk aw n aA cells a b ao agg col qs) l r ks) aH with
 |none=>∃C K D L R KS w h',res= .ret (.dX [.agg (bB aw n aA C a b K agg col D [L,R,KS]),w,.bool false]) h'/\(bB aw n aA C a b K agg col D [L,R,KS]).all af.bE=true/\(w= .nil∨w= .sl []∨ ∃id n,w= .own id 0 n)/\ah h' Q
 |some (f',out)=>∃v' w d' F' G h',res= .ret (.dX [v',w,.bool true]) h'/\FD f' d'/\ah h' (.cU d' v' F':: .cU (aE.d out) w G::Q)
theorem Au(hp:bV pr){ws:List Int}{aH:List (List Item)}(ht: ∀(i:Nat) z v,aH[i]?=some z->ws[i]?=some v->c7 z=true/\dH v z)(SV:aH.length<=1000/\ ∀z∈aH,c7 z=true)(tv:af):
  ∀(d:Nat),d<=100-> ∀(aw n:Int)(aA:Test)(cells:List Cell)(a b:Int)(ao:List Int)(agg col:Int)(qs:List ax)(l r:List (List Item))(ks:List bA)(w:Int),lA ws d (.mk (.mk aw n aA cells a b ao agg col qs) l r ks) w->
  ∀(dd:ba)(v:af)(F:List Nat)(h:aC)(Q:List Chunk),FD (.mk (.mk aw n aA cells a b ao agg col qs) l r ks) dd->ah h (.cU dd v F::Q)->(∀h',ah h' Q->Am.snap h' tv=some (bM.enc aH))->
  ∃res,bN (du pr) (call (du pr)) 113 [v,tv] h=some res/\fQ aH aw n aA cells a b ao agg col qs l r ks Q res:=by
   intro d
   induction d with
   |zero=>intro _ aw n aA cells a b ao agg col qs l r ks w h;exact h.elim
   |succ d ih=>
    intro hd aw n aA cells a b ao agg col qs l r ks w dt dd v F h Q VP S hT;have ad1:=dt;obtain⟨h1,h2,h3,h4,h5,h6,wk,h7,h8,h9⟩:=dt;obtain⟨C,K,D,L,R,KS,Fp,F1,F2,F3,sN,rfl,Ic,c1,c2,c3,S1⟩:=ah.s6 VP S;replace S:=S1;clear S1;have cL:=(show XR h l L F1 from S.get 1 rfl).cell;have cR:=(show XR h r R F2 from S.get 2 rfl).cell;have cK:=(show bP h (.s 22 sN) KS F3 from S.get 3 rfl).cell;have aD:(bB aw n aA C a b K agg col D [L,R,KS]).all af.bE=true:=nU c1 c2 c3 (bC cL.2 (bC cR.2 (bC cK.2 rfl)));rw[mh rfl];refine cS (hp.out _ rfl) ?_;conv=>whnf
    intro k1 a1 dw dC;replace S:=S.alloc dw dC;conv=>whnf
    intro k2 a2 jf iB;replace S:=S.alloc jf iB;conv=>whnf
    have N7:sN.length=ks.length:=vh Ic
    have hKS:(KS= .nil/\ks.length=0)∨(KS= .sl []/\ks.length=0)∨ ∃id,KS= .own id 0 ks.length:=by
     have ho:bP a2 (.s 22 sN) KS F3:=S.get 5 rfl;simp only[bP]at ho;rcases ho with⟨rfl,_,rfl|rfl⟩|⟨id,vs,Fs,rfl,_⟩
     ·exact .inl ⟨rfl,N7.symm⟩
     ·exact .inr (.inl ⟨rfl,N7.symm⟩)
     ·exact .inr (.inr ⟨id,by rw[N7]⟩)
    have Er:ks.length<=100000:=by have:(ax.mk aw n aA cells a b ao agg col qs).sz<=300:=h1;rw[<-h6]at this;simp only[ax.sz,aO]at this;omega
    replace S:=S.q5;replace S:=ah.j7 1 S
    refine dh (fun m tm hp=>∃(j:Nat)(M:af)(FM F:List Nat)(mz:List bA)(outs:List (List Item))(vn rest:List ba),j+m=ks.length/\tm 7=M/\tm 8=i64 (j:Nat)/\wM mz vn/\wM (ks.drop j) rest/\ix (ks.take j) aH=some (mz,outs)/\
     ah hp (.iA 1 (outs.map aE.d) M FM:: .cU (.s 22 (vn++rest)) KS F:: .row k2 (.box KG):: .row k1 (.box (.agg (bB aw n aA C a b K agg col D [L,R,KS]))):: .cU (.p (.mk aw n aA cells a b ao agg col qs)) (lL aw n aA C a b K agg col D) Fp:: .xr l L F1:: .xr r R F2::Q))
     (fun m tm hq bz hI=>?_) ks.length ⟨0,.nil,[],F3,[],[],[],sN,by simp,rfl,rfl,rfl,Ic,rfl,S⟩
    clear S Ic N7;obtain⟨j,M,FM,F,mz,outs,vn,rest,hj,e7,e8,qF,nG,kP,S⟩:=hI;have e1:=bz 1 (by kernel_rfl);conv at e1=>rhs;whnf
    have e2:=bz 2 (by kernel_rfl);conv at e2=>rhs;whnf
    have e4:=bz 4 (by kernel_rfl);conv at e4=>rhs;whnf
    refine⟨[(1,_),(2,_),(4,_),(7,_),(8,_)],⟨e1,e2,e4,e7,e8,trivial⟩,?_⟩;clear bz e1 e2 e4 e7 e8;have fw:j<4611686018427387904:=by omega
    conv=>whnf
    refine aI (S.row 3 rfl) ?_;conv=>whnf
    rcases hKS with⟨rfl,hn⟩|⟨rfl,hn⟩|⟨id,rfl⟩
    rotate_left 2
    ·conv=>whnf
     refine ae (fun g1=>?_) (fun g1=>?_)
     ·have bq:j<ks.length:=by simpa using g1
      rw[ar bq]at nG;obtain⟨dk,P8,rfl,US,UT⟩:=nG;have hwj:wk[j]?=some wk[j]:=au (by omega);have QE:=h9 j _ _ (au bq) hwj;have sO:=xU (aH:=aH) (xs:=ks.take j) (k:=ks[j]);rw[<-dn bq,kP]at sO;simp only at sO;have xW:ix (ks.take (j+1)) aH=none->ix ks aH=none:=fun h=>by rw[<-List.take_append_drop (j+1) ks];exact xV h
      generalize ks[j]=q at US QE sO;obtain⟨⟨cd,n',cr,bK,a',b',cm,cX,jb,Xj⟩,l',r',pc⟩:=q;replace S:=S.swap;rcases ah.open S with⟨hx,_,_⟩|⟨yu,vs,Fs,cq,rfl,S1⟩
      ·simp at hx
      injection cq with rW _ DT;subst rW;obtain⟨VA,v,VB,FA,G,FB,rfl,W1,S2⟩:=ah.Cq S1.swap;clear S S1;have S:=S2;clear S2;obtain⟨C',K',D',L',R',UM,Fp',F1',F2',F3',aah,rfl,UU,c1',c2',c3',Sx⟩:=ah.s6 US S;clear Sx UU c1' c2' c3';have Nw:VA.length=j:=by rw[W1,vh qF,(nF kP).1];simp;omega
      have qQ:(VA++af.agg (bB cd n' cr C' a' b' K' cX jb D' [L',R',UM])::VB)[0+((j:Nat):Int).toNat]?=some (af.agg (bB cd n' cr C' a' b' K' cX jb D' [L',R',UM])):=by
       rw[bg,aq,<-Nw];simp
      conv=>whnf
      refine aI (S.row 6 rfl) ?_;conv=>whnf
      refine⟨_,S.row 3 rfl,⟨by omega,by omega⟩,?_⟩;conv=>whnf
      refine .inr ⟨_,_,_,S.row 3 rfl,qQ,?_⟩;conv=>whnf
      obtain⟨res,hc,iJ⟩:=ih (by omega) cd n' cr bK a' b' cm cX jb Xj l' r' pc _ QE dk _ _ _ _ US S fun h' S'=>hT h' (S'.my 9);refine⟨_,hc,?_⟩;clear hc S QE;unfold fQ at iJ
      cases A5:hH (.mk (.mk cd n' cr bK a' b' cm cX jb Xj) l' r' pc) aH with
      |none=>
       rw[A5]at iJ sO;obtain⟨C2,K2,D2,L2,R2,qW,w2,BF,rfl,c8,Bo,S1⟩:=iJ;have S:=S1;clear S1;have e:hH (.mk (.mk aw n aA cells a b ao agg col qs) l r ks) aH=none:=by simp only[hH,xW sO]
       rcases Bo with rfl|rfl|⟨i9,n9,rfl⟩
       all_goals
        conv=>whnf
        intro k5 a5 DI qf;replace S:=S.alloc DI qf;conv=>whnf
        refine⟨(bB cd n' cr C2 a' b' K2 cX jb D2 [L2,R2,qW]),(by kernel_rfl),rfl,c8,.inl ⟨_,S.row 0 rfl,rfl,?_⟩⟩;conv=>whnf
        intro b1 eN;replace S:=S.w0 eN;conv=>whnf
        refine aI (S.row 6 rfl) ?_;conv=>whnf
        refine⟨(bB aw n aA C a b K agg col D [L,R,.own id 0 ks.length]),(by kernel_rfl),rfl,aD,.inl ⟨_,S.row 5 rfl,rfl,?_⟩⟩;conv=>whnf
        intro b2 dB;replace S:=S.w5 dB;conv=>whnf
        exact⟨_,eu rfl rfl (S.row 5 rfl) rfl rfl rfl,by unfold fQ;rw[e];exact⟨C,K,D,L,R,_,.nil,_,rfl,aD,.inl rfl,S.my 10⟩⟩
      |some p=>
       obtain⟨q',o⟩:=p;rw[A5]at iJ sO;obtain⟨v2,w2,d2,G2,H2,BF,rfl,lB,S1⟩:=iJ;have S:=S1;clear S1;obtain⟨⟨kd,nn,tt,cc,ta,tb,kk,ag,cl,qq⟩,ll,rr,fk⟩:=q';obtain⟨C2,K2,D2,L2,R2,qW,Xk,X1,X2,X3,P9,rfl,Av,y1,y2,y3,Sx⟩:=ah.s6 lB S;have c8:(bB kd nn tt C2 ta tb K2 ag cl D2 [L2,R2,qW]).all af.bE=true:=nU y1 y2 y3 (bC (show XR _ ll L2 X1 from Sx.get 1 rfl).cell.2 (bC (show XR _ rr R2 X2 from Sx.get 2 rfl).cell.2 (bC (show bP _ (.s 22 P9) qW X3 from Sx.get 3 rfl).cell.2 rfl)));clear Sx y1 y2 y3 Av;rcases(show bP _ (.s 2 (o.map Item.d)) w2 H2 from S.get 1 rfl).slice with rfl|rfl|⟨i9,n9,rfl⟩
       all_goals
        conv=>whnf
        intro k5 a5 DI qf;replace S:=S.alloc DI qf;conv=>whnf
        refine⟨(bB kd nn tt C2 ta tb K2 ag cl D2 [L2,R2,qW]),(by kernel_rfl),rfl,c8,.inl ⟨_,S.row 0 rfl,rfl,?_⟩⟩;conv=>whnf
        intro b1 eN;replace S:=S.w0 eN;conv=>whnf
        refine aI (S.row 8 rfl) ?_;conv=>whnf
        refine aI (S.row 0 rfl) ?_;conv=>whnf
        refine⟨_,S.row 5 rfl,⟨by omega,by omega⟩,?_⟩;conv=>whnf
        refine⟨bB kd nn tt C2 ta tb K2 ag cl D2 [L2,R2,qW],(by kernel_rfl),rfl,c8,.inr ⟨_,_,_,S.row 5 rfl,qQ,?_⟩⟩;conv=>whnf
        intro b2 dB;replace S:=S.w5 dB;conv=>whnf
        rw[bg,aq,kO Nw]at S;replace S:=S.drop 0;dsimp only[List.eraseIdx]at S;replace S:=S.q3;replace S:=S.q3;replace S:=S.q2;replace S:=ah.Bq S;replace S:=S.q2;replace S:=ah.close (n:=ks.length) S (by simp at DT⊢;omega);replace S:=S.q1;replace S:=S.q2;intro nM nN de dg;replace S:=S.alloc de dg;conv=>whnf
        refine⟨trivial,?_⟩;conv=>whnf
        refine⟨[_],bG (S.row 0 rfl),cQ rfl rfl,?_⟩;replace S:=S.drop 0;dsimp only[List.eraseIdx]at S;refine jM (sz:=1) (d:=aE.d o) S (by have:=(nF kP).2.1;simp[br]at this⊢;omega) fun k6 h6 F6 S2=>?_;clear S;have S:=S2;clear S2;conv=>whnf
        have lJ:wM [bA.mk (.mk kd nn tt cc ta tb kk ag cl qq) ll rr fk] [d2]:=⟨_,_,rfl,lB,rfl⟩;exact⟨m-1,by omega,j+1,_,_,_,_,_,vn++[d2],P8,by omega,rfl,aQ j fw,DQ qF lJ,UT,sO,by rw[bd,List.append_assoc];exact S⟩
     ·have bq:j=ks.length:=by simp at g1;omega
      conv=>whnf
      clear ih fw;subst bq;rw[aL]at nG;simp only[wM]at nG;subst nG;rw[aU]at S;rw[aS]at kP;obtain⟨p1,p2,p3,p4,p5,p6⟩:=DS ht h7 h9 kP;obtain⟨n1,n2,n3,n4,n5⟩:=qE h8;have Dc:lA ws (d+1) (.mk (.mk aw n aA cells a b ao agg col qs) l r mz) w:=⟨h1,h2,h3,h4,h5,by rw[p3,h6],wk,by omega,h8,p4⟩;have fm:=dK (show(ax.mk aw n aA cells a b ao agg col qs).small from by unfold ax.small;omega);replace S:=S.q1;replace S:=S.q6;replace S:=S.q6;replace S:=S.q6
      have He:Am.snap hq (.agg (bB aw n aA C a b K agg col D [L,R,.own id 0 ks.length]))=some (bA.mk (.mk aw n aA cells a b ao agg col qs) l r mz).enc:=by
       obtain⟨dF,GF,Cr,SF⟩:=ah.vi qF S;have Xl:=rT _ _ Cr;have xX:=rV _ _ _ Dc;rw[<-wN _ _ Cr];exact bP.snap (show bP hq dF _ GF from SF.get 0 rfl) (by omega)
      have Hf:Am.snap hq M=some (bM.enc outs):=by
       have:=(show qS 1 hq (outs.map aE.d) M FM from S.get 4 rfl).1;rw[<-bM.eD];exact bP.snap (d:=bM.d outs) this (by have:=gM outs;omega)
      have Hg:Am.snap hq tv=some (bM.enc aH):=hT hq (S.my 7);have hX:=Al hp aw n aA cells a b ao agg col qs l r mz aH outs n1 (by omega) ⟨by have:=(dD h2).1;omega,(dD h2).2⟩ ⟨by have:=(dD h3).1;omega,(dD h3).2⟩ ⟨SV.1,fun z hz=>cF (SV.2 z hz)⟩ ⟨by omega,fun z hz=>cF (p6 z hz)⟩ (by have:=fm.1;simp only[cM];omega) fm.2.1
      have aN:hH (.mk (.mk aw n aA cells a b ao agg col qs) l r ks) aH=(if(jw aw n aA cells a b ao agg col l r aH outs).2=false then none else
        if(fV aw l r outs).2.2=false then none else some (.mk (.mk aw n aA cells a b ao agg col qs) (fV aw l r outs).1 (fV aw l r outs).2.1 mz,(jw aw n aA cells a b ao agg col l r aH outs).1)):=by simp only[hH,kP]
      generalize jw aw n aA cells a b ao agg col l r aH outs=mm at aN hX;obtain⟨mo,mb⟩:=mm;refine aI (S.row 6 rfl) ?_;conv=>whnf
      refine gA S hX rfl (bm He (bm Hg (bm Hf (dc _)))) fun vs q1 F5 S1=>?_;obtain⟨v1,F6,rfl,S2⟩:=ah.jZ S1;clear S S1 He Hf Hg hX;have S:=S2;clear S2;have QG:=(show bP _ (.s 2 (mo.map Item.d)) v1 F6 from S.get 0 rfl).slice;have tV:=QG;rcases QG with rfl|rfl|⟨i9,n9,rfl⟩
      all_goals
       cases mb
       ·rw[if_pos rfl]at aN;conv=>whnf
        refine aI (S.row 7 rfl) ?_;conv=>whnf
        refine⟨(bB aw n aA C a b K agg col D [L,R,.own id 0 ks.length]),(by kernel_rfl),rfl,aD,.inl ⟨_,S.row 6 rfl,rfl,?_⟩⟩;conv=>whnf
        intro b2 dB;replace S:=S.w6 dB;conv=>whnf
        exact⟨_,eu rfl rfl (S.row 6 rfl) rfl rfl rfl,by unfold fQ;rw[aN];exact⟨C,K,D,L,R,_,.nil,_,rfl,aD,.inl rfl,S.my 8⟩⟩
       ·rw[if_neg (by simp)]at aN;conv=>whnf
        refine aI (S.row 7 rfl) ?_;conv=>whnf
        replace S:=S.q4;replace S:=S.q4;replace S:=S.q4;replace S:=S.q4;replace S:=S.q5;refine An hp (dD h2) (dD h3) p6 (fun h=>by have:=n3 h;omega) (fun h=>by have:=n4 h;omega) c1 c2 c3 S fun L' R' G1 G2 h' S1=>?_;clear S;generalize fV aw l r outs=kk at aN S1⊢;obtain⟨kl,kr,kb⟩:=kk;have S:=S1;clear S1;have c8:(bB aw n aA C a b K agg col D [L',R',.own id 0 ks.length]).all af.bE=true:=nU c1 c2 c3 (bC (show XR _ kl L' G1 from S.get 1 rfl).cell.2 (bC (show XR _ kr R' G2 from S.get 2 rfl).cell.2 rfl));cases kb
        ·rw[if_pos rfl]at aN;conv=>whnf
         intro k6 a6 Nx Qa;replace S:=S.alloc Nx Qa;conv=>whnf
         refine⟨(bB aw n aA C a b K agg col D [L',R',.own id 0 ks.length]),(by kernel_rfl),rfl,c8,.inl ⟨_,S.row 0 rfl,rfl,?_⟩⟩;conv=>whnf
         intro b3 gg;replace S:=S.w0 gg;conv=>whnf
         refine aI (S.row 0 rfl) ?_;conv=>whnf
         refine⟨(bB aw n aA C a b K agg col D [L',R',.own id 0 ks.length]),(by kernel_rfl),rfl,c8,.inl ⟨_,S.row 6 rfl,rfl,?_⟩⟩;conv=>whnf
         intro b4 iH;replace S:=S.w6 iH;conv=>whnf
         exact⟨_,eu rfl rfl (S.row 6 rfl) rfl rfl rfl,by unfold fQ;rw[aN];exact⟨C,K,D,L',R',_,_,_,rfl,c8,tV,S.my 8⟩⟩
        ·rw[if_neg (by simp)]at aN;conv=>whnf
         intro k6 a6 Nx Qa;replace S:=S.alloc Nx Qa;conv=>whnf
         refine⟨(bB aw n aA C a b K agg col D [L',R',.own id 0 ks.length]),(by kernel_rfl),rfl,c8,.inl ⟨_,S.row 0 rfl,rfl,?_⟩⟩;conv=>whnf
         intro b3 gg;replace S:=S.w0 gg;conv=>whnf
         refine aI (S.row 0 rfl) ?_;conv=>whnf
         refine⟨(bB aw n aA C a b K agg col D [L',R',.own id 0 ks.length]),(by kernel_rfl),rfl,c8,.inl ⟨_,S.row 6 rfl,rfl,?_⟩⟩;conv=>whnf
         intro b4 iH;replace S:=S.w6 iH;conv=>whnf
         replace S:=S.drop 0;dsimp only[List.eraseIdx]at S;obtain⟨dF,GF,Cr,SF⟩:=ah.vi qF S;exact⟨_,eu rfl rfl (S.row 5 rfl) rfl rfl rfl,by unfold fQ;rw[aN];exact⟨_,_,dF,GF,_,_,rfl,Cr,(SF.drop 2).drop 2⟩⟩
    ·have bq:j=ks.length:=by omega
     conv=>whnf
     clear ih fw;subst bq;rw[aL]at nG;simp only[wM]at nG;subst nG;rw[aU]at S;rw[aS]at kP;obtain⟨p1,p2,p3,p4,p5,p6⟩:=DS ht h7 h9 kP;obtain⟨n1,n2,n3,n4,n5⟩:=qE h8;have Dc:lA ws (d+1) (.mk (.mk aw n aA cells a b ao agg col qs) l r mz) w:=⟨h1,h2,h3,h4,h5,by rw[p3,h6],wk,by omega,h8,p4⟩;have fm:=dK (show(ax.mk aw n aA cells a b ao agg col qs).small from by unfold ax.small;omega);replace S:=S.q1;replace S:=S.q6;replace S:=S.q6;replace S:=S.q6
     have He:Am.snap hq (.agg (bB aw n aA C a b K agg col D [L,R,.nil]))=some (bA.mk (.mk aw n aA cells a b ao agg col qs) l r mz).enc:=by
      obtain⟨dF,GF,Cr,SF⟩:=ah.vi qF S;have Xl:=rT _ _ Cr;have xX:=rV _ _ _ Dc;rw[<-wN _ _ Cr];exact bP.snap (show bP hq dF _ GF from SF.get 0 rfl) (by omega)
     have Hf:Am.snap hq M=some (bM.enc outs):=by
      have:=(show qS 1 hq (outs.map aE.d) M FM from S.get 4 rfl).1;rw[<-bM.eD];exact bP.snap (d:=bM.d outs) this (by have:=gM outs;omega)
     have Hg:Am.snap hq tv=some (bM.enc aH):=hT hq (S.my 7);have hX:=Al hp aw n aA cells a b ao agg col qs l r mz aH outs n1 (by omega) ⟨by have:=(dD h2).1;omega,(dD h2).2⟩ ⟨by have:=(dD h3).1;omega,(dD h3).2⟩ ⟨SV.1,fun z hz=>cF (SV.2 z hz)⟩ ⟨by omega,fun z hz=>cF (p6 z hz)⟩ (by have:=fm.1;simp only[cM];omega) fm.2.1
     have aN:hH (.mk (.mk aw n aA cells a b ao agg col qs) l r ks) aH=(if(jw aw n aA cells a b ao agg col l r aH outs).2=false then none else
       if(fV aw l r outs).2.2=false then none else some (.mk (.mk aw n aA cells a b ao agg col qs) (fV aw l r outs).1 (fV aw l r outs).2.1 mz,(jw aw n aA cells a b ao agg col l r aH outs).1)):=by simp only[hH,kP]
     generalize jw aw n aA cells a b ao agg col l r aH outs=mm at aN hX;obtain⟨mo,mb⟩:=mm;refine aI (S.row 6 rfl) ?_;conv=>whnf
     refine gA S hX rfl (bm He (bm Hg (bm Hf (dc _)))) fun vs q1 F5 S1=>?_;obtain⟨v1,F6,rfl,S2⟩:=ah.jZ S1;clear S S1 He Hf Hg hX;have S:=S2;clear S2;have QG:=(show bP _ (.s 2 (mo.map Item.d)) v1 F6 from S.get 0 rfl).slice;have tV:=QG;rcases QG with rfl|rfl|⟨i9,n9,rfl⟩
     all_goals
      cases mb
      ·rw[if_pos rfl]at aN;conv=>whnf
       refine aI (S.row 7 rfl) ?_;conv=>whnf
       refine⟨(bB aw n aA C a b K agg col D [L,R,.nil]),(by kernel_rfl),rfl,aD,.inl ⟨_,S.row 6 rfl,rfl,?_⟩⟩;conv=>whnf
       intro b2 dB;replace S:=S.w6 dB;conv=>whnf
       exact⟨_,eu rfl rfl (S.row 6 rfl) rfl rfl rfl,by unfold fQ;rw[aN];exact⟨C,K,D,L,R,_,.nil,_,rfl,aD,.inl rfl,S.my 8⟩⟩
      ·rw[if_neg (by simp)]at aN;conv=>whnf
       refine aI (S.row 7 rfl) ?_;conv=>whnf
       replace S:=S.q4;replace S:=S.q4;replace S:=S.q4;replace S:=S.q4;replace S:=S.q5;refine An hp (dD h2) (dD h3) p6 (fun h=>by have:=n3 h;omega) (fun h=>by have:=n4 h;omega) c1 c2 c3 S fun L' R' G1 G2 h' S1=>?_;clear S;generalize fV aw l r outs=kk at aN S1⊢;obtain⟨kl,kr,kb⟩:=kk;have S:=S1;clear S1;have c8:(bB aw n aA C a b K agg col D [L',R',.nil]).all af.bE=true:=nU c1 c2 c3 (bC (show XR _ kl L' G1 from S.get 1 rfl).cell.2 (bC (show XR _ kr R' G2 from S.get 2 rfl).cell.2 rfl));cases kb
       ·rw[if_pos rfl]at aN;conv=>whnf
        intro k6 a6 Nx Qa;replace S:=S.alloc Nx Qa;conv=>whnf
        refine⟨(bB aw n aA C a b K agg col D [L',R',.nil]),(by kernel_rfl),rfl,c8,.inl ⟨_,S.row 0 rfl,rfl,?_⟩⟩;conv=>whnf
        intro b3 gg;replace S:=S.w0 gg;conv=>whnf
        refine aI (S.row 0 rfl) ?_;conv=>whnf
        refine⟨(bB aw n aA C a b K agg col D [L',R',.nil]),(by kernel_rfl),rfl,c8,.inl ⟨_,S.row 6 rfl,rfl,?_⟩⟩;conv=>whnf
        intro b4 iH;replace S:=S.w6 iH;conv=>whnf
        exact⟨_,eu rfl rfl (S.row 6 rfl) rfl rfl rfl,by unfold fQ;rw[aN];exact⟨C,K,D,L',R',_,_,_,rfl,c8,tV,S.my 8⟩⟩
       ·rw[if_neg (by simp)]at aN;conv=>whnf
        intro k6 a6 Nx Qa;replace S:=S.alloc Nx Qa;conv=>whnf
        refine⟨(bB aw n aA C a b K agg col D [L',R',.nil]),(by kernel_rfl),rfl,c8,.inl ⟨_,S.row 0 rfl,rfl,?_⟩⟩;conv=>whnf
        intro b3 gg;replace S:=S.w0 gg;conv=>whnf
        refine aI (S.row 0 rfl) ?_;conv=>whnf
        refine⟨(bB aw n aA C a b K agg col D [L',R',.nil]),(by kernel_rfl),rfl,c8,.inl ⟨_,S.row 6 rfl,rfl,?_⟩⟩;conv=>whnf
        intro b4 iH;replace S:=S.w6 iH;conv=>whnf
        replace S:=S.drop 0;dsimp only[List.eraseIdx]at S;obtain⟨dF,GF,Cr,SF⟩:=ah.vi qF S;exact⟨_,eu rfl rfl (S.row 5 rfl) rfl rfl rfl,by unfold fQ;rw[aN];exact⟨_,_,dF,GF,_,_,rfl,Cr,(SF.drop 2).drop 2⟩⟩
    ·have bq:j=ks.length:=by omega
     conv=>whnf
     clear ih fw;subst bq;rw[aL]at nG;simp only[wM]at nG;subst nG;rw[aU]at S;rw[aS]at kP;obtain⟨p1,p2,p3,p4,p5,p6⟩:=DS ht h7 h9 kP;obtain⟨n1,n2,n3,n4,n5⟩:=qE h8;have Dc:lA ws (d+1) (.mk (.mk aw n aA cells a b ao agg col qs) l r mz) w:=⟨h1,h2,h3,h4,h5,by rw[p3,h6],wk,by omega,h8,p4⟩;have fm:=dK (show(ax.mk aw n aA cells a b ao agg col qs).small from by unfold ax.small;omega);replace S:=S.q1;replace S:=S.q6;replace S:=S.q6;replace S:=S.q6
     have He:Am.snap hq (.agg (bB aw n aA C a b K agg col D [L,R,.sl []]))=some (bA.mk (.mk aw n aA cells a b ao agg col qs) l r mz).enc:=by
      obtain⟨dF,GF,Cr,SF⟩:=ah.vi qF S;have Xl:=rT _ _ Cr;have xX:=rV _ _ _ Dc;rw[<-wN _ _ Cr];exact bP.snap (show bP hq dF _ GF from SF.get 0 rfl) (by omega)
     have Hf:Am.snap hq M=some (bM.enc outs):=by
      have:=(show qS 1 hq (outs.map aE.d) M FM from S.get 4 rfl).1;rw[<-bM.eD];exact bP.snap (d:=bM.d outs) this (by have:=gM outs;omega)
     have Hg:Am.snap hq tv=some (bM.enc aH):=hT hq (S.my 7);have hX:=Al hp aw n aA cells a b ao agg col qs l r mz aH outs n1 (by omega) ⟨by have:=(dD h2).1;omega,(dD h2).2⟩ ⟨by have:=(dD h3).1;omega,(dD h3).2⟩ ⟨SV.1,fun z hz=>cF (SV.2 z hz)⟩ ⟨by omega,fun z hz=>cF (p6 z hz)⟩ (by have:=fm.1;simp only[cM];omega) fm.2.1
     have aN:hH (.mk (.mk aw n aA cells a b ao agg col qs) l r ks) aH=(if(jw aw n aA cells a b ao agg col l r aH outs).2=false then none else
       if(fV aw l r outs).2.2=false then none else some (.mk (.mk aw n aA cells a b ao agg col qs) (fV aw l r outs).1 (fV aw l r outs).2.1 mz,(jw aw n aA cells a b ao agg col l r aH outs).1)):=by simp only[hH,kP]
     generalize jw aw n aA cells a b ao agg col l r aH outs=mm at aN hX;obtain⟨mo,mb⟩:=mm;refine aI (S.row 6 rfl) ?_;conv=>whnf
     refine gA S hX rfl (bm He (bm Hg (bm Hf (dc _)))) fun vs q1 F5 S1=>?_;obtain⟨v1,F6,rfl,S2⟩:=ah.jZ S1;clear S S1 He Hf Hg hX;have S:=S2;clear S2;have QG:=(show bP _ (.s 2 (mo.map Item.d)) v1 F6 from S.get 0 rfl).slice;have tV:=QG;rcases QG with rfl|rfl|⟨i9,n9,rfl⟩
     all_goals
      cases mb
      ·rw[if_pos rfl]at aN;conv=>whnf
       refine aI (S.row 7 rfl) ?_;conv=>whnf
       refine⟨(bB aw n aA C a b K agg col D [L,R,.sl []]),(by kernel_rfl),rfl,aD,.inl ⟨_,S.row 6 rfl,rfl,?_⟩⟩;conv=>whnf
       intro b2 dB;replace S:=S.w6 dB;conv=>whnf
       exact⟨_,eu rfl rfl (S.row 6 rfl) rfl rfl rfl,by unfold fQ;rw[aN];exact⟨C,K,D,L,R,_,.nil,_,rfl,aD,.inl rfl,S.my 8⟩⟩
      ·rw[if_neg (by simp)]at aN;conv=>whnf
       refine aI (S.row 7 rfl) ?_;conv=>whnf
       replace S:=S.q4;replace S:=S.q4;replace S:=S.q4;replace S:=S.q4;replace S:=S.q5;refine An hp (dD h2) (dD h3) p6 (fun h=>by have:=n3 h;omega) (fun h=>by have:=n4 h;omega) c1 c2 c3 S fun L' R' G1 G2 h' S1=>?_;clear S;generalize fV aw l r outs=kk at aN S1⊢;obtain⟨kl,kr,kb⟩:=kk;have S:=S1;clear S1;have c8:(bB aw n aA C a b K agg col D [L',R',.sl []]).all af.bE=true:=nU c1 c2 c3 (bC (show XR _ kl L' G1 from S.get 1 rfl).cell.2 (bC (show XR _ kr R' G2 from S.get 2 rfl).cell.2 rfl));cases kb
       ·rw[if_pos rfl]at aN;conv=>whnf
        intro k6 a6 Nx Qa;replace S:=S.alloc Nx Qa;conv=>whnf
        refine⟨(bB aw n aA C a b K agg col D [L',R',.sl []]),(by kernel_rfl),rfl,c8,.inl ⟨_,S.row 0 rfl,rfl,?_⟩⟩;conv=>whnf
        intro b3 gg;replace S:=S.w0 gg;conv=>whnf
        refine aI (S.row 0 rfl) ?_;conv=>whnf
        refine⟨(bB aw n aA C a b K agg col D [L',R',.sl []]),(by kernel_rfl),rfl,c8,.inl ⟨_,S.row 6 rfl,rfl,?_⟩⟩;conv=>whnf
        intro b4 iH;replace S:=S.w6 iH;conv=>whnf
        exact⟨_,eu rfl rfl (S.row 6 rfl) rfl rfl rfl,by unfold fQ;rw[aN];exact⟨C,K,D,L',R',_,_,_,rfl,c8,tV,S.my 8⟩⟩
       ·rw[if_neg (by simp)]at aN;conv=>whnf
        intro k6 a6 Nx Qa;replace S:=S.alloc Nx Qa;conv=>whnf
        refine⟨(bB aw n aA C a b K agg col D [L',R',.sl []]),(by kernel_rfl),rfl,c8,.inl ⟨_,S.row 0 rfl,rfl,?_⟩⟩;conv=>whnf
        intro b3 gg;replace S:=S.w0 gg;conv=>whnf
        refine aI (S.row 0 rfl) ?_;conv=>whnf
        refine⟨(bB aw n aA C a b K agg col D [L',R',.sl []]),(by kernel_rfl),rfl,c8,.inl ⟨_,S.row 6 rfl,rfl,?_⟩⟩;conv=>whnf
        intro b4 iH;replace S:=S.w6 iH;conv=>whnf
        replace S:=S.drop 0;dsimp only[List.eraseIdx]at S;obtain⟨dF,GF,Cr,SF⟩:=ah.vi qF S;exact⟨_,eu rfl rfl (S.row 5 rfl) rfl rfl rfl,by unfold fQ;rw[aN];exact⟨_,_,dF,GF,_,_,rfl,Cr,(SF.drop 2).drop 2⟩⟩
end Go.Proofs.YtfepbikckfehlaaGreat
set_option maxHeartbeats 4000000
namespace Go.Proofs.YtfepbikckfehlaaGreat
open Go Go.Am
variable{pr:bL}(hp:bV pr)
set_option maxRecDepth 100000
mutual
def i0:bA->Int->bA×Int
 | .mk p l r ks,fu=>(.mk p (dZ l fu).1 (dZ r (dZ l fu).2).1 (eF ks (dZ r (dZ l fu).2).2).1,(eF ks (dZ r (dZ l fu).2).2).2)
def eF:List bA->Int->List bA×Int
 | [],fu=>([],fu)
 |k::ks,fu=>((i0 k fu).1::(eF ks (i0 k fu).2).1,(eF ks (i0 k fu).2).2)
end
theorem vo: ∀(xs:List bA)(k:bA)(fu:Int),eF (xs++[k]) fu=((eF xs fu).1++[(i0 k (eF xs fu).2).1],(i0 k (eF xs fu).2).2)
 | [],k,fu=>by simp[eF]
 |x::xs,k,fu=>by simp only[List.cons_append,eF,vo xs k]
theorem rX: ∀(xs:List bA)(fu:Int),(eF xs fu).1.length=xs.length
 | [],fu=>rfl
 |x::xs,fu=>by simp only[eF,aJ,rX xs]
theorem Aw{w:Int}: ∀(n:Nat)(xs:List (List Item))(fu:Int),en xs=true->(∀z∈xs,dH w z)->en (iQ n xs fu).1=true/\ ∀z∈(iQ n xs fu).1,dH w z
 |0,xs,fu,h1,h2=>⟨h1,h2⟩
 |n+1,xs,fu,h1,h2=>by
  unfold iQ;split
  ·rename_i hl;split
   ·exact⟨h1,h2⟩
   ·rename_i hc;refine Aw n _ _ ?_ (Cp (by omega) h2 fun y z hy hz _=>iI hy hz)
    cases h:en (fP xs)with
    |true=>rfl
    |false=>exact absurd (.inr h) hc
  ·exact⟨h1,h2⟩
theorem sC{w:Int}{xs:List (List Item)}(fu:Int)(h2: ∀z∈xs,dH w z):en (dZ xs fu).1=true/\ ∀z∈(dZ xs fu).1,dH w z:=by
 unfold dZ;split
 ·rename_i h;simp only[aj]at h;exact Aw _ _ _ h.1 h2
 ·exact⟨rfl,fun z hz=>by simp at hz⟩
theorem Ax(fu:Int):(dZ [] fu).1=[]:=by
 unfold dZ;split
 ·rfl
 ·rfl
theorem Ay{xs:List (List Item)}(fu:Int):en (dZ xs fu).1=true:=by
 unfold dZ;split
 ·rename_i h;simp only[aj]at h
  have key: ∀(n:Nat)(xs:List (List Item))(fu:Int),en xs=true->en (iQ n xs fu).1=true:=by
   intro n
   induction n with
   |zero=>intro xs fu h;exact h
   |succ n ih=>
    intro xs fu h1;unfold iQ;split
    ·split
     ·exact h1
     ·rename_i hc;refine ih _ _ ?_
      cases h:en (fP xs)with
      |true=>rfl
      |false=>exact absurd (.inr h) hc
    ·exact h1
  exact key _ _ _ h.1
 ·rfl
mutual
theorem oB: ∀(f:bA)(fu:Int),(i0 f fu).1.dx=f.dx
 | .mk p l r ks,fu=>rfl
end
theorem s7: ∀(ks:List bA)(fu:Int),(eF ks fu).1.map bA.dx=ks.map bA.dx
 | [],fu=>rfl
 |k::ks,fu=>by simp only[eF,aM,oB,s7 ks]
theorem xY: ∀(ks:List bA)(fu:Int)(i:Nat)(k:bA),(eF ks fu).1[i]?=some k-> ∃k0 fu',ks[i]?=some k0/\k=(i0 k0 fu').1
 | [],fu,i,k,h=>by simp[eF]at h
 |x::ks,fu,i,k,h=>by
  cases i with
  |zero=>simp[eF]at h;exact⟨x,fu,rfl,h.symm⟩
  |succ i=>simp only[eF,List.getElem?_cons_succ]at h⊢;exact xY ks _ i k h
theorem Az{ws:List Int}: ∀(d:Nat)(f:bA)(w fu:Int),lA ws d f w->lA ws d (i0 f fu).1 w
 |0,f,w,fu,h=>h.elim
 |d+1,.mk (.mk aw n aA cells a b ao agg col qs) l r ks,w,fu,h=>by
  obtain⟨h1,h2,h3,h4,h5,h6,wk,h7,h8,h9⟩:=h;refine⟨h1,Ay _,Ay _,fun h=>by rw[h4 h,Ax],fun ha hb hc=>by rw[h5 ha hb hc,Ax],by rw[s7,h6],wk,by rw[rX,h7],?_,fun i k v hk hv=>?_⟩
  ·rcases h8 with⟨rfl,Jq,rfl,hw⟩|⟨rfl,rfl⟩|⟨rfl,h3,rfl⟩|⟨rfl,a',b',rfl,rfl,gl,gr⟩|⟨rfl,rfl⟩|⟨rfl,rfl,gl⟩|⟨rfl,rfl,a',rfl,gl⟩
   ·exact .inl ⟨rfl,Jq,rfl,hw⟩
   ·exact .inr (.inl ⟨rfl,rfl⟩)
   ·exact .inr (.inr (.inl ⟨rfl,h3,rfl⟩))
   ·exact .inr (.inr (.inr (.inl ⟨rfl,a',b',rfl,rfl,(sC _ gl).2,(sC _ gr).2⟩)))
   ·exact .inr (.inr (.inr (.inr (.inl ⟨rfl,rfl⟩))))
   ·exact .inr (.inr (.inr (.inr (.inr (.inl ⟨rfl,rfl,(sC _ gl).2⟩)))))
   ·exact .inr (.inr (.inr (.inr (.inr (.inr ⟨rfl,rfl,a',rfl,(sC _ gl).2⟩)))))
  ·obtain⟨k0,fu',Nm,rfl⟩:=xY _ _ _ _ hk;exact Az d k0 v fu' (h9 i k0 v Nm hv)
theorem AA(hp:bV pr){l:List (List Item)}{L:af}{F:List Nat}{fu:Int}{h:aC}{Q:List Chunk}(hl:en l=true)(S:ah h (.xr l L F::Q)):
  ∃h2,bN (du pr) (call (du pr)) 139 [.agg [L],i64 fu] h=some (.ret (.dX [.agg [bM.enc (dZ l fu).1],i64 (dZ l fu).2]) h2)/\ah h2 Q/\h.length<=h2.length:=by
   obtain⟨d,ho,h1,h2,he,_⟩:=(show XR h l L F from S.get 0 rfl).cU;have S1:ah h (.dy [.g [d],.i fu] [.agg [L],i64 fu] (F++[])::Q):=S.is (c':=.dy [.g [d],.i fu] [.agg [L],i64 fu] (F++[])) (eW ho (nk fu)) (by simp[Chunk.dy,Chunk.xr]);refine PJ (ds:=[.g [d],.i fu]) rfl S1 (by simp[ba.nW,ba.Bn,h1]) (by simp only[ba.cZ,ba.dep];omega) ?_;rw[show ba.cz [.g [d],.i fu]=[.agg [bM.enc l],i64 fu]from by rw[show ba.cz [.g [d],.i fu]=[(ba.g [d]).enc,i64 fu]from rfl,he]];have:=dD hl;exact Ji hp l fu ⟨by simp[cM];omega,fun z hz=>cF (this.2 z hz)⟩
theorem MZ(hp:bV pr){ws:List Int}:
  ∀(d:Nat),d<=100-> ∀(aw n:Int)(aA:Test)(cells:List Cell)(a b:Int)(ao:List Int)(agg col:Int)(qs:List ax)(l r:List (List Item))(ks:List bA)(w:Int),lA ws d (.mk (.mk aw n aA cells a b ao agg col qs) l r ks) w->
  ∀(fu:Int)(dd:ba)(v:af)(F:List Nat)(h:aC)(Q:List Chunk),FD (.mk (.mk aw n aA cells a b ao agg col qs) l r ks) dd->ah h (.cU dd v F::Q)->
  ∃v' d' F' h',bN (du pr) (call (du pr)) 116 [v,i64 fu] h=some (.ret (.dX [v',i64 (i0 (.mk (.mk aw n aA cells a b ao agg col qs) l r ks) fu).2]) h')/\FD (i0 (.mk (.mk aw n aA cells a b ao agg col qs) l r ks) fu).1 d'/\ah h' (.cU d' v' F'::Q):=by
   intro d
   induction d with
   |zero=>intro _ aw n aA cells a b ao agg col qs l r ks w h;exact h.elim
   |succ d ih=>
    intro hd aw n aA cells a b ao agg col qs l r ks w dt fu dd v F h Q VP S;obtain⟨h1,h2,h3,h4,h5,h6,wk,h7,h8,h9⟩:=dt;obtain⟨C,K,D,L,R,KS,Fp,F1,F2,F3,sN,rfl,Ic,c1,c2,c3,S1⟩:=ah.s6 VP S;replace S:=S1;clear S1;have cL:=(show XR h l L F1 from S.get 1 rfl).cell;have cR:=(show XR h r R F2 from S.get 2 rfl).cell;have cK:=(show bP h (.s 22 sN) KS F3 from S.get 3 rfl).cell;rw[mh rfl]
    suffices hw:wv (du pr) 116 [.agg (bB aw n aA C a b K agg col D [L,R,KS]),i64 fu] h (fun res=>∃v' d' F' h',res= .ret (.dX [v',i64 (i0 (.mk (.mk aw n aA cells a b ao agg col qs) l r ks) fu).2]) h'/\FD (i0 (.mk (.mk aw n aA cells a b ao agg col qs) l r ks) fu).1 d'/\ah h' (.cU d' v' F'::Q)) by
     obtain⟨res,hr,v',d',F',h',rfl,g1,g2⟩:=cS (hp.out _ rfl) hw;exact⟨v',d',F',h',hr,g1,g2⟩
    have e:i0 (.mk (.mk aw n aA cells a b ao agg col qs) l r ks) fu=(.mk (.mk aw n aA cells a b ao agg col qs) (dZ l fu).1 (dZ r (dZ l fu).2).1 (eF ks (dZ r (dZ l fu).2).2).1,(eF ks (dZ r (dZ l fu).2).2).2):=by simp only[i0]
    rw[e];clear e;conv=>whnf
    intro k1 a1 dw dC;replace S:=S.alloc dw dC;conv=>whnf
    intro k2 a2 jf iB;replace S:=S.alloc jf iB;conv=>whnf
    refine aI (S.row 1 rfl) ?_;conv=>whnf
    replace S:=S.q3;obtain⟨q3,qy,S3,_⟩:=AA hp (fu:=fu) h2 S;refine⟨_,qy,?_⟩;clear S qy;have S:=ah.My (dZ l fu).1 S3;clear S3;generalize dZ l fu=ml at S⊢;obtain⟨ml,fu1⟩:=ml;dsimp only at S⊢;conv=>whnf
    refine⟨_,rfl,rfl,rfl,.inl ⟨_,S.row 2 rfl,rfl,?_⟩⟩;conv=>whnf
    intro b1 eN;replace S:=S.w2 eN;conv=>whnf
    refine aI (S.row 2 rfl) ?_;conv=>whnf
    replace S:=S.q4;obtain⟨q4,Sb,S4,_⟩:=AA hp (fu:=fu1) h3 S;refine⟨_,Sb,?_⟩;clear S Sb;have S:=ah.My (dZ r fu1).1 S4;clear S4;generalize dZ r fu1=mr at S⊢;obtain⟨mr,VG⟩:=mr;dsimp only at S⊢;conv=>whnf
    refine⟨_,rfl,rfl,rfl,.inl ⟨_,S.row 3 rfl,rfl,?_⟩⟩;conv=>whnf
    intro b2 dB;replace S:=S.w3 dB;conv=>whnf
    have N7:sN.length=ks.length:=vh Ic
    have hKS:(KS= .nil/\ks.length=0)∨(KS= .sl []/\ks.length=0)∨ ∃id,KS= .own id 0 ks.length:=by
     have ho:bP b2 (.s 22 sN) KS F3:=S.get 5 rfl;simp only[bP]at ho;rcases ho with⟨rfl,_,rfl|rfl⟩|⟨id,vs,Fs,rfl,_⟩
     ·exact .inl ⟨rfl,N7.symm⟩
     ·exact .inr (.inl ⟨rfl,N7.symm⟩)
     ·exact .inr (.inr ⟨id,by rw[N7]⟩)
    have Er:ks.length<=100000:=by have:(ax.mk aw n aA cells a b ao agg col qs).sz<=300:=h1;rw[<-h6]at this;simp only[ax.sz,aO]at this;omega
    replace S:=S.q5
    refine dh (fun m tm hp=>∃(j:Nat)(F:List Nat)(vn rest:List ba),j+m=ks.length/\tm 1=i64 (eF (ks.take j) VG).2/\tm 6=i64 (j:Nat)/\wM (eF (ks.take j) VG).1 vn/\wM (ks.drop j) rest/\
     ah hp (.cU (.s 22 (vn++rest)) KS F:: .xr mr (bM.enc mr) []:: .xr ml (bM.enc ml) []:: .row k2 (.box KG):: .row k1 (.box (.agg (bB aw n aA C a b K agg col D [bM.enc ml,bM.enc mr,KS]))):: .cU (.p (.mk aw n aA cells a b ao agg col qs)) (lL aw n aA C a b K agg col D) Fp::Q))
     (fun m tm hq bz hI=>?_) ks.length ⟨0,F3,[],sN,by simp,rfl,rfl,rfl,Ic,S⟩
    clear S Ic N7;obtain⟨j,F,vn,rest,hj,e1,e6,qF,nG,S⟩:=hI;have e2:=bz 2 (by kernel_rfl);conv at e2=>rhs;whnf
    have e4:=bz 4 (by kernel_rfl);conv at e4=>rhs;whnf
    refine⟨[(1,_),(2,_),(4,_),(6,_)],⟨e1,e2,e4,e6,trivial⟩,?_⟩;clear bz e1 e2 e4 e6;have fw:j<4611686018427387904:=by omega
    conv=>whnf
    refine aI (S.row 4 rfl) ?_;conv=>whnf
    rcases hKS with⟨rfl,hn⟩|⟨rfl,hn⟩|⟨id,rfl⟩
    rotate_left 2
    ·conv=>whnf
     refine ae (fun g1=>?_) (fun g1=>?_)
     ·have bq:j<ks.length:=by simpa using g1
      rw[ar bq]at nG;obtain⟨dk,P8,rfl,US,UT⟩:=nG;have hwj:wk[j]?=some wk[j]:=au (by omega);have QE:=h9 j _ _ (au bq) hwj;have sO:=vo (ks.take j) ks[j] VG;rw[<-dn bq]at sO;have hlen:=rX (ks.take j) VG;generalize eF (ks.take j) VG=mm at sO qF hlen⊢;obtain⟨mz,fj⟩:=mm;dsimp only at sO qF hlen⊢;generalize ks[j]=q at US QE sO;obtain⟨⟨cd,n',cr,bK,a',b',cm,cX,jb,Xj⟩,l',r',pc⟩:=q;rcases ah.open S with⟨hx,_,_⟩|⟨yu,vs,Fs,cq,rfl,S1⟩
      ·simp at hx
      injection cq with rW _ DT;subst rW;obtain⟨VA,v,VB,FA,G,FB,rfl,W1,S2⟩:=ah.Cq S1.swap;clear S S1;have S:=S2;clear S2;obtain⟨C',K',D',L',R',UM,Fp',F1',F2',F3',aah,rfl,UU,c1',c2',c3',Sx⟩:=ah.s6 US S;clear Sx UU c1' c2' c3';have Nw:VA.length=j:=by rw[W1,vh qF,hlen];simp;omega
      have qQ:(VA++af.agg (bB cd n' cr C' a' b' K' cX jb D' [L',R',UM])::VB)[0+((j:Nat):Int).toNat]?=some (af.agg (bB cd n' cr C' a' b' K' cX jb D' [L',R',UM])):=by
       rw[bg,aq,<-Nw];simp
      conv=>whnf
      refine aI (S.row 7 rfl) ?_;conv=>whnf
      refine⟨_,S.row 3 rfl,⟨by omega,by omega⟩,?_⟩;conv=>whnf
      refine .inr ⟨_,_,_,S.row 3 rfl,qQ,?_⟩;conv=>whnf
      obtain⟨v2,d2,G2,BF,hc,lB,S1⟩:=ih (by omega) cd n' cr bK a' b' cm cX jb Xj l' r' pc _ QE fj dk _ _ _ _ US S;refine⟨_,hc,?_⟩;clear hc S QE;have S:=S1;clear S1;generalize i0 (.mk (.mk cd n' cr bK a' b' cm cX jb Xj) l' r' pc) fj=mq at sO lB⊢;obtain⟨⟨⟨kd,nn,tt,cc,ta,tb,kk,ag,cl,qq⟩,ll,rr,fk⟩,fj2⟩:=mq;dsimp only at sO lB⊢;obtain⟨C2,K2,D2,L2,R2,qW,Xk,X1,X2,X3,P9,rfl,Av,y1,y2,y3,Sx⟩:=ah.s6 lB S;have c8:(bB kd nn tt C2 ta tb K2 ag cl D2 [L2,R2,qW]).all af.bE=true:=nU y1 y2 y3 (bC (show XR _ ll L2 X1 from Sx.get 1 rfl).cell.2 (bC (show XR _ rr R2 X2 from Sx.get 2 rfl).cell.2 (bC (show bP _ (.s 22 P9) qW X3 from Sx.get 3 rfl).cell.2 rfl)));clear Sx y1 y2 y3 Av;conv=>whnf
      intro k5 a5 DI qf;replace S:=S.alloc DI qf;conv=>whnf
      refine⟨(bB kd nn tt C2 ta tb K2 ag cl D2 [L2,R2,qW]),(by kernel_rfl),rfl,c8,.inl ⟨_,S.row 0 rfl,rfl,?_⟩⟩;conv=>whnf
      intro b5 iZ;replace S:=S.w0 iZ;conv=>whnf
      refine aI (S.row 8 rfl) ?_;conv=>whnf
      refine aI (S.row 0 rfl) ?_;conv=>whnf
      refine⟨_,S.row 4 rfl,⟨by omega,by omega⟩,?_⟩;conv=>whnf
      refine⟨bB kd nn tt C2 ta tb K2 ag cl D2 [L2,R2,qW],(by kernel_rfl),rfl,c8,.inr ⟨_,_,_,S.row 4 rfl,qQ,?_⟩⟩;conv=>whnf
      intro b6 rU;replace S:=S.w4 rU;conv=>whnf
      rw[bg,aq,kO Nw]at S;replace S:=S.drop 0;dsimp only[List.eraseIdx]at S;replace S:=ah.Bq S;replace S:=S.q1;replace S:=ah.close (n:=ks.length) S (by simp at DT⊢;omega);have lJ:wM [bA.mk (.mk kd nn tt cc ta tb kk ag cl qq) ll rr fk] [d2]:=⟨_,_,rfl,lB,rfl⟩;exact⟨m-1,by omega,j+1,_,vn++[d2],P8,by omega,by rw[sO];rfl,aQ j fw,by rw[sO];exact DQ qF lJ,UT,by rw[List.append_assoc];exact S⟩
     ·have bq:j=ks.length:=by simp at g1;omega
      conv=>whnf
      subst bq;rw[aL]at nG;simp only[wM]at nG;subst nG;rw[aU]at S;rw[aS]at qF⊢;clear ih fw;refine aI (S.row 4 rfl) ?_;conv=>whnf
      refine⟨(bB aw n aA C a b K agg col D [bM.enc ml,bM.enc mr,.own id 0 ks.length]),(by kernel_rfl),rfl,(nU c1 c2 c3 (bC rfl (bC rfl (bC rfl rfl)))),.inl ⟨_,S.row 3 rfl,rfl,?_⟩⟩;conv=>whnf
      intro b3 gg;replace S:=S.w3 gg;conv=>whnf
      replace S:=S.q1;replace S:=S.q2;replace S:=S.q5;obtain⟨dF,GF,Cr,SF⟩:=ah.vi qF S;exact⟨_,aR rfl rfl (S.row 4 rfl) rfl rfl,_,dF,GF,_,rfl,Cr,(SF.drop 1).drop 1⟩
    ·have bq:j=ks.length:=by omega
     conv=>whnf
     subst bq;rw[aL]at nG;simp only[wM]at nG;subst nG;rw[aU]at S;rw[aS]at qF⊢;clear ih fw;refine aI (S.row 4 rfl) ?_;conv=>whnf
     refine⟨(bB aw n aA C a b K agg col D [bM.enc ml,bM.enc mr,.nil]),(by kernel_rfl),rfl,(nU c1 c2 c3 (bC rfl (bC rfl (bC rfl rfl)))),.inl ⟨_,S.row 3 rfl,rfl,?_⟩⟩;conv=>whnf
     intro b3 gg;replace S:=S.w3 gg;conv=>whnf
     replace S:=S.q1;replace S:=S.q2;replace S:=S.q5;obtain⟨dF,GF,Cr,SF⟩:=ah.vi qF S;exact⟨_,aR rfl rfl (S.row 4 rfl) rfl rfl,_,dF,GF,_,rfl,Cr,(SF.drop 1).drop 1⟩
    ·have bq:j=ks.length:=by omega
     conv=>whnf
     subst bq;rw[aL]at nG;simp only[wM]at nG;subst nG;rw[aU]at S;rw[aS]at qF⊢;clear ih fw;refine aI (S.row 4 rfl) ?_;conv=>whnf
     refine⟨(bB aw n aA C a b K agg col D [bM.enc ml,bM.enc mr,.sl []]),(by kernel_rfl),rfl,(nU c1 c2 c3 (bC rfl (bC rfl (bC rfl rfl)))),.inl ⟨_,S.row 3 rfl,rfl,?_⟩⟩;conv=>whnf
     intro b3 gg;replace S:=S.w3 gg;conv=>whnf
     replace S:=S.q1;replace S:=S.q2;replace S:=S.q5;obtain⟨dF,GF,Cr,SF⟩:=ah.vi qF S;exact⟨_,aR rfl rfl (S.row 4 rfl) rfl rfl,_,dF,GF,_,rfl,Cr,(SF.drop 1).drop 1⟩
end Go.Proofs.YtfepbikckfehlaaGreat

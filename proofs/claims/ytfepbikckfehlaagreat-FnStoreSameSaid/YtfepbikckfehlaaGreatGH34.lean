/- Runs merged while fuel lasts: the reference's. -/
import Derived.Test.YtfepbikckfehlaaGreatGH33
set_option linter.unusedVariables false
set_option linter.unusedSimpArgs false
set_option maxHeartbeats 4000000
namespace Go.Proofs.YtfepbikckfehlaaGreat
open Go Go.Am
variable{pr:bW}(hp:cF pr)
set_option maxRecDepth 100000
def gW(xs:List (List Item)):List (List Item):=match xs.drop (xs.length-2)with
 | [y,z]=>xs.take (xs.length-2)++(if dt y z=[]then []else [dt y z])
 |_=>xs
def j5:Nat->List (List Item)->List (List Item)
 |0,xs=>xs
 |n+1,xs=>if 5<xs.length∨(1<xs.length/\fq xs=false)then j5 n (gW xs)else xs
def pS(bH:List (List Item))(z:List Item):List (List Item)×Bool:=
 if z=[]then(bH,true)
 else if dS (jd (bH++[z]))then
  (if zk (j5 (bH.length+1) (bH++[z]))then(j5 (bH.length+1) (bH++[z]),true)else(bH,false))
 else(bH,false)
theorem yg(xs:List Int):bg.dO (xs.map bg.i)=1:=by induction xs with|nil=>rfl|cons x xs ih=>simp only[aao,bg.dO,bg.dep,ih];rfl
theorem lG(z:List Item):(aI.d z).dep<=15:=by
 have key: ∀xs:List Item,bg.dO (xs.map Item.d)<=10:=by
  intro xs
  induction xs with
  |nil=>simp[bg.dO]
  |cons x xs ih=>simp only[aao,bg.dO,Item.d,bg.dep,iR.d,yg];omega
 have:=key z;simp only[aI.d,bg.dep];omega
theorem BH: ∀(A:List (List Item))(d:bg),d.CP=true->bg.pR (bX.v A++[d])=true
 | [],d,h=>by simp[bX.v,bg.pR,h]
 |x::xs,d,h=>by
  have:=BH xs d h;simp only[bX.v,aao,abD,bg.pR,bg.CP,aay]at this⊢;exact this
theorem vo: ∀(A:List (List Item))(d:bg),d.dep<=15->bg.dO (bX.v A++[d])<=15
 | [],d,h=>by simp only[bX.v,abA,List.nil_append,bg.dO];omega
 |x::xs,d,h=>by
  have:=vo xs d h;simp only[bX.v,aao,abD,bg.dO,bg.dep]at this⊢;omega
theorem OP(ys:List Int):bg.pR (ys.map bg.i)=true:=by induction ys with|nil=>rfl|cons y ys ih=>simp only[aao,bg.pR,bg.CP,ih,Bool.and_self]
theorem yh(z:List Item):(aI.d z).CP=true:=by
 have h1: ∀xs:List Item,bg.pR (xs.map Item.d)=true:=by
  intro xs
  induction xs with
  |nil=>rfl
  |cons x xs ih=>simp only[aao,bg.pR,Item.d,bg.CP,iR.d,OP,ih,Bool.and_self]
 simp only[aI.d,bg.CP,h1]
def XR(h:aG)(cur:List (List Item))(D:af)(F:List Nat):Prop:=∃d,cq h d D F/\d.CP=true/\d.dep<=20/\d.enc=bX.enc cur
def _root_.Go.Am.Chunk.xr(cur:List (List Item))(D:af)(F:List Nat):Chunk:=⟨F,fun h=>XR h cur D F,fun h h'⟨d,ho,hr⟩ hf=>⟨d,cq.frame ho hf,hr⟩,fun h⟨d,ho,_⟩=>cq.lt ho⟩
theorem XR.cases{h:aG}{cur:List (List Item)}{D:af}{F:List Nat}(hx:XR h cur D F):(D= .nil/\cur=[])∨D= .sl (cur.map aI.enc)∨ ∃id,D= .own id 0 cur.length:=by
 obtain⟨d,ho,_,_,he⟩:=hx
 cases d with
 |s sz ds=>
  simp only[bg.enc,bX.enc,af.sl.injEq]at he;have hl:ds.length=cur.length:=by have:=congrArg List.length he;simpa[bg.eH]using this
  simp only[cq]at ho;rcases ho with⟨h1,_,rfl|rfl⟩|⟨id,vs,Fs,rfl,_⟩
  ·subst h1;exact .inl ⟨rfl,aaM.1 (by simpa using hl.symm)⟩
  ·subst h1;exact .inr (.inl (by rw[aaM.1 (show cur.length=0 by simpa using hl.symm)];rfl))
  ·exact .inr (.inr ⟨id,by rw[hl]⟩)
 |a sz ds=>
  simp only[bg.enc,bX.enc,af.sl.injEq]at he;have hl:ds.length=cur.length:=by have:=congrArg List.length he;simpa[bg.eH]using this
  simp only[cq]at ho;rcases ho with⟨h1,_,rfl⟩|⟨id,vs,Fs,rfl,_⟩
  ·subst h1;exact .inl ⟨rfl,aaM.1 (by simpa using hl.symm)⟩
  ·exact .inr (.inr ⟨id,by rw[hl]⟩)
 |v x=>simp only[cq]at ho;rw[ho.1];exact .inr (.inl he)
 |i x=>simp[bg.enc,bX.enc,i64]at he
 |b x=>simp[bg.enc,bX.enc]at he
 |p q=>obtain⟨cs,hc⟩:=tR q;simp only[bg.enc,hc,bX.enc]at he;cases he
 |g ds=>simp[bg.enc,bX.enc]at he
theorem XR.cell{h:aG}{cur:List (List Item)}{D:af}{F:List Nat}(hx:XR h cur D F):D.cells=[D]/\D.bQ=true:=by
 rcases hx.cases with⟨rfl,_⟩|rfl|⟨id,rfl⟩<;>exact⟨rfl,rfl⟩
theorem XR.dL{h:aG}{cur:List (List Item)}{D:af}{F:List Nat}(hx:XR h cur D F): ∃d,cq h (.g [d]) (.agg [D]) F/\d.CP=true/\d.dep<=20/\(bg.g [d]).enc= .agg [bX.enc cur]/\d.enc=bX.enc cur:=by
 have hc:=hx.cell.1;obtain⟨d,ho,h1,h2,he⟩:=hx;refine⟨d,?_,h1,h2,by simp only[bg.enc,bg.uo,he];rfl,he⟩;simp only[cq,fy];exact⟨[D],rfl,D,[],F,[],by rw[hc];rfl,by simp,ho,rfl,rfl⟩
theorem XR.snap{h:aG}{cur:List (List Item)}{D:af}{F:List Nat}(hx:XR h cur D F):Am.snap h (.agg [D])=some (.agg [bX.enc cur]):=by
 obtain⟨d,ho,_,h2,he,_⟩:=hx.dL;rw[<-he];exact ho.snap (by simp only[bg.dep,bg.dO];omega)
theorem XR.ti{h:aG}{cur:List (List Item)}{D:af}{F:List Nat}(hx:XR h cur D F)(b:Bool):Am.snap h (.eT [.agg [D],.bool b])=some (.eT [.agg [bX.enc cur],.bool b]):=by
 obtain⟨d,ho,_,h2,he,_⟩:=hx.dL;have:=cZ.ti (iH ho (ve b)) (by simp only[bg.dO,bg.dep];omega);rw[this];simp only[bg.dv,he];rfl
theorem XR.fz{h:aG}(cur:List (List Item)):XR h cur (bX.enc cur) []:=⟨.v (bX.enc cur),by unfold cq;exact⟨rfl,rfl,rfl⟩,rfl,by simp[bg.dep],rfl⟩
theorem aj.OQ{h:aG}{L:List Chunk}(cur:List (List Item))(S:aj h L):aj h (.xr cur (bX.enc cur) []::L):=
 S.more (aa2 _) (XR.fz cur) (by simp[Chunk.xr]) (by simp[Chunk.xr])
theorem XR.of{h:aG}{d:bg}{cur:List (List Item)}{D:af}{F:List Nat}(ho:cq h (.g [d]) (.agg [D]) F)(hd:d.dep<=20)(hn:d.CP=true)(hc: ∃sz xs,d= .s sz xs)(he:d.enc=bX.enc cur):XR h cur D F:=by
 obtain⟨vs,hv,hu⟩:=iF.1 ho;cases hv
 simp only[fy]at hu;obtain⟨v,fx,F1,F2,h1,rfl,h2,rfl,rfl⟩:=hu;obtain⟨sz,xs,rfl⟩:=hc;rw[h2.cell.1]at h1;simp only[aaw,List.cons.injEq,and_true]at h1;subst h1;exact⟨_,by simpa using h2,hn,hd,he⟩
def Calm(c:Chunk):Prop:=∀h h1 p,c.P h->c.P (h.map (yC h1 p))
theorem IP{k:Nat}{o:dH}(ho: ∀h1 p,yC h1 p o=o):Calm (.row k o):=fun h h1 p hc=>by
 have hc:h[k]?=some o:=hc;show(h.map (yC h1 p))[k]?=some o;rw[aba,hc,aaL,ho]
theorem _root_.Go.Am.aj.calm{h h1:aG}{L:List Chunk}{p:Nat->Bool}(S:aj h L)(hL: ∀c∈L,Calm c):aj (h.map (yC h1 p)) L:=
 ⟨fun i d hi=>⟨hL d (aaq hi) h h1 p (S.get' i d hi).1,(S.get' i d hi).2⟩,S.apart⟩
theorem yi{f:FuncId}{cur:List (List Item)}{D:af}{F:List Nat}{x:af}{h:aG}{k:Nat}{L:List Chunk}(hM:gI f=Am.Mode.X)(S:aj h (.xr cur D F:: .row k (.box (.agg [D]))::L))(hL: ∀c∈L,Calm c)(hr:Fz pr f [.agg [bX.enc cur]] x):
  ∃h2 D2,cj (dZ pr) (call (dZ pr)) f [.agg [D]] h=some (.ret x h2)/\aj h2 (.xr cur D2 []:: .row k (.box (.agg [D2]))::L)/\h.length<=h2.length:=by
   obtain⟨v,h1,hc,hv⟩:=hr;have hx:XR h cur D F:=S.get 0 rfl
   cases hn:dc [] [af.agg [D]]with
   |some a2=>
    have e:=x5 h hn;rw[bu hx.snap (dM h)]at e;cases e
    refine⟨h,D,WB hM hn hc hv,?_,aah _⟩;refine(S.drop 0).more (aa2 _) ?_ (by simp[Chunk.xr]) (by simp[Chunk.xr]);rcases hx.cases with⟨rfl,rfl⟩|rfl|⟨id,rfl⟩
    ·exact⟨.s 1 [],by unfold cq;exact .inl ⟨rfl,rfl,.inl rfl⟩,rfl,by simp[bg.dep,bg.dO],rfl⟩
    ·exact XR.fz cur
    ·have:dc [] [af.agg [af.own id 0 cur.length]]=none:=rfl
     rw[this]at hn;cases hn
   |none=>
    obtain⟨d,ho,h4,h5,he,_⟩:=hx.dL;have Lm: ∀i,fR h [af.agg [D]] i=true↔i∈F:=cZ.reach (ds:=[.g [d]]) (oZ ho) (by simp[bg.pR,bg.CP,h4]) (by simp only[bg.dO,bg.dep];omega);have yQ:XR (gh (fun i=>!fR h [af.agg [D]] i) 0 h) cur D F:=(Chunk.xr cur D F).loc h _ hx fun id dm=>ub (by rw[(Lm id).2 dm];rfl)
    have S2:aj (gh (fR h [af.agg [D]]) 0 h) (.row k (.box (.agg [D]))::L):=aj.uL (S.drop 0) fun c SQ id dm=>by
     cases e:fR h [af.agg [D]] id with
     |false=>rfl
     |true=>
      obtain⟨i,hi⟩:=List.mem_iff_getElem?.1 SQ;exact absurd dm (S.apart 0 (i+1) _ c (by omega) rfl (by simpa using hi) id ((Lm id).1 e))
    rcases hx.cases with⟨rfl,rfl⟩|rfl|⟨id,rfl⟩
    ·have:dc [] [af.agg [af.nil]]=some [.agg [.sl []]]:=rfl;rw[this]at hn;cases hn
    ·have:=bu (XR.snap (XR.fz (h:=[]) cur)) (dM []);have Sm:dc [] [af.agg [bX.enc cur]]=none:=hn;rw[this]at Sm;cases Sm
    ·refine⟨_,bX.enc cur,Y6 hM hn (bu yQ.snap (dM _)) hc hv,?_,by rw[aat,il];exact aah _⟩
     have dm:id∈F:=by
      obtain⟨d,ho,_,_,he⟩:=hx
      cases d with
      |s sz ds=>
       simp only[cq]at ho;rcases ho with⟨_,_,h|h⟩|⟨zS,vs,Fs,h,_,_,hF⟩
       ·cases h
       ·cases h
       ·injection h with h;rw[hF,h];simp
      |a sz ds=>
       simp only[cq]at ho;rcases ho with⟨_,_,h⟩|⟨zS,vs,Fs,h,_,_,hF⟩
       ·cases h
       ·injection h with h;rw[hF,h];simp
      |v y=>simp only[cq]at ho;rw[<-ho.1]at he;cases he
      |i y=>simp only[cq,i64]at ho;cases ho.1
      |b y=>simp only[cq]at ho;cases ho.1
      |p q=>obtain⟨cs,hc⟩:=tR q;simp only[bg.enc,hc,bX.enc]at he;cases he
      |g ds=>simp[bg.enc,bX.enc]at he
     have oG:snap (gh (fun i=>!fR h [af.agg [af.own id 0 cur.length]] i) 0 h) (.own id 0 cur.length)=some (bX.enc cur):=by
      obtain⟨d,ho,_,hd,he⟩:=yQ;rw[<-he];exact ho.snap (by omega)
     refine aj.OQ cur ?_;have S3:=(S2.drop 0).calm (h1:=gh (fun i=>!fR h [af.agg [af.own id 0 cur.length]] i) 0 h) (p:=fR h [af.agg [af.own id 0 cur.length]]) hL;have hk:(gh (fR h [af.agg [af.own id 0 cur.length]]) 0 h)[k]?=some (.box (.agg [.own id 0 cur.length])):=S2.row 0 rfl;have ab0:=(Lm id).2 dm;refine⟨fun i c hi=>?_,fun i j c e yP hi hj=>?_⟩
     ·match i,hi with
      |0,hi=>
       simp at hi;subst hi;refine⟨?_,(S2.get' 0 _ rfl).2⟩;show(List.map _ _)[k]?=some _;rw[aba,hk]
       simp only[aaL,yC,aao,abA,LY,ab0,oG]
      |i+1,hi=>exact S3.get' i c (by simpa using hi)
     ·match i,j,hi,hj with
      |0,0,_,_=>exact absurd rfl yP
      |0,j+1,hi,hj=>simp at hi;subst hi;exact S2.apart 0 (j+1) (.row k (.box (.agg [.own id 0 cur.length]))) e yP rfl (by simpa using hj)
      |i+1,0,hi,hj=>simp at hj;subst hj;exact S2.apart (i+1) 0 c (.row k (.box (.agg [.own id 0 cur.length]))) yP (by simpa using hi) rfl
      |i+1,j+1,hi,hj=>exact S2.apart (i+1) (j+1) c e yP (by simpa using hi) (by simpa using hj)
def tl(xs:List (List Item)):Nat:=(xs.map List.length).sum
def WD(n:Nat)(xs:List (List Item)):Prop:=tl xs<=n/\ ∀r∈xs,∀x∈r,x.row.length<=dB
theorem rU{α:Type}{xs:List α}(h:2<=xs.length): ∃A y z,xs=A++[y,z]:=by
 have h1:(xs.drop (xs.length-2)).length=2:=by simp;omega
 match e:xs.drop (xs.length-2),h1 with
 | [y,z],_=>exact⟨xs.take (xs.length-2),y,z,by rw[<-e,List.take_append_drop]⟩
theorem wZ(A:List (List Item))(y z:List Item):gW (A++[y,z])=A++(if dt y z=[]then []else [dt y z]):=by
 have h1:(A++[y,z]).length-2=A.length:=by simp
 unfold gW;rw[h1,List.drop_left,List.take_left'];rfl
theorem px{xs:List (List Item)}(h:2<=xs.length):(gW xs).length<xs.length:=by
 obtain⟨A,y,z,rfl⟩:=rU h;rw[wZ];split<;>simp
theorem Ln{xs:List (List Item)}{r:List Item}(h:r∈xs):r.length<=tl xs:=by
 induction xs with
 |nil=>simp at h
 |cons y ys ih=>
  simp only[tl,aao,List.sum_cons];rcases aaz.1 h with rfl|h
  ·omega
  ·have:=ih h;simp only[tl]at this;omega
theorem oe{n:Nat}{xs:List (List Item)}(h:2<=xs.length)(hr:WD n xs):WD n (gW xs):=by
 obtain⟨A,y,z,rfl⟩:=rU h;obtain⟨h1,h2⟩:=hr;have hs:=gx (a:=y) (b:=z) (h2 y (by simp)) (h2 z (by simp));rw[wZ];simp only[tl,aaD,aao,abA,List.sum_append,List.sum_cons,List.sum_nil]at h1;split
 ·refine⟨by simp only[tl,aaD,abA,aaw];omega,fun r hr=>h2 r (by rw[aaw]at hr;simp[hr])⟩
 ·refine⟨by simp only[tl,aaD,aao,abA,List.sum_append,List.sum_cons,List.sum_nil];omega,fun r hr=>?_⟩;rcases aaS.1 hr with hr|hr
  ·exact h2 r (by simp[hr])
  ·simp at hr;subst hr;exact hs.2
theorem BI{n:Nat}{xs:List (List Item)}(hn:n<=1000)(hl:xs.length<=1000)(hr:WD n xs):s7 xs:=
 ⟨by simp[dB];omega,fun z hz=>⟨by have:=Ln hz;have:=hr.1;simp[dB];omega,hr.2 z hz⟩⟩
theorem RM{xs:List (List Item)}(hl:xs.length<=10)(hz: ∀z∈xs,dS z=true):WD 1000 xs:=by
 refine⟨?_,fun z h=>(dC (hz z h)).2⟩
 have key: ∀ys:List (List Item),(∀z∈ys,dS z=true)->tl ys<=100*ys.length:=by
  intro ys
  induction ys with
  |nil=>intro _;simp[tl]
  |cons y ys ih=>
   intro h;have h1:=ih fun z hz=>h z (by simp[hz]);have h2:=(dA (h y (by simp))).1;simp only[tl,aao,List.sum_cons,aak]at h1⊢;omega
 have:=key xs hz;omega
theorem qT(hp:cF pr)(cur:List (List Item))(h2:2<=cur.length)(hl:cur.length<=10)(hr:WD 1000 cur):Fz pr 151 [.agg [bX.enc cur]] (.agg [bX.enc (gW cur)]):=by
 have hs:=BI (aah _) (by omega) hr;obtain⟨A,y,z,rfl⟩:=rU h2;obtain⟨h1,h3⟩:=hr;have hy:=hs.2 y (by simp);have hz:=hs.2 z (by simp);have hm:=Ln (xs:=A++[y,z]) (r:=y) (by simp);have Pa:=Ln (xs:=A++[y,z]) (r:=z) (by simp)
 have:=(RJ hp A y z hy hz (by simp[dB];omega) (by simp at hl;omega)).toV (by
  split
  ·simp only[bg.dep,bg.dO,aaw];have: ∀(xs:List (List Item)),bg.dO (bX.v xs)=1:=by intro xs;induction xs with|nil=>rfl|cons x xs ih=>simp only[bX.v,aao,bg.dO,bg.dep]at ih⊢;omega
   rw[this];omega
  ·have:=vo A _ (lG (dt y z));simp only[bg.dep,bg.dO];omega)
 rw[show(bg.g [.s 1 (bX.v A++(if dt y z=[]then []else [aI.d (dt y z)]))]).enc= .agg [bX.enc (gW (A++[y,z]))]from ?_]at this
 ·exact this
 ·rw[wZ];simp only[bg.enc,bg.uo,af.cells,aaw,bX.enc,bg.jW,aaD,bX.v,List.map_map];split<;>simp[aI.fG,bg.enc,Function.comp_def]
theorem MT{pr:bW}(hp:cF pr){f:FuncId}{args:List af}{x:af}(hn:plain f=true)(hw:x9 (dZ pr) f args [] (fun r=>∃v h,r= .ret v h/\Am.snap h v=some x)):Fz pr f args x:=by
 obtain⟨r,hr,v,h,rfl,h1⟩:=dJ (hp.out f hn) hw;exact⟨v,h,hr,h1⟩
theorem aj.ab1{h:aG}{L:List Chunk}{A:List (List Item)}{z:List Item}{D w:af}{F3:List Nat}(S:aj h (.acc Po 1 (A.map aI.enc++[w]) D:: .jA 2 (z.map Item.d) w F3::L)): ∃F,aj h (.xr (A++[z]) D F::L):=by
 have S0:=aj.ek S.swap;have S1:=(S0.swap.more (c:=.ed (bX.v A) (A.map aI.enc) []) (aa2 _) (FC A) (by simp[Chunk.ed]) (by simp[Chunk.ed])).front 2 rfl;dsimp only[List.eraseIdx]at S1;have S2:=(aj.snoc S1).swap;obtain⟨F,S3⟩:=aj.RH S2;have S4:=aj.ek S3;refine⟨F,S4.is (c':=.xr (A++[z]) D F) ⟨.s 1 (bX.v A++[aI.d z]),S4.get 0 rfl,BH _ _ (yh z),?_,?_⟩ rfl⟩
 ·have:=vo A (aI.d z) (lG z);simp only[bg.dep];omega
 ·simp only[bg.enc,bX.enc,bg.jW,aaD,bX.v,List.map_map,aao,abA,aI.fG];simp[bg.enc,Function.comp_def]
theorem T8(hp:cF pr)(bH:List (List Item))(z:List Item)(hl:bH.length<=5)(hr: ∀r∈bH,dS r=true)(hz:dS z=true):
  Fz pr 150 [.agg [bX.enc bH],aI.enc z] (.eT [.agg [bX.enc (pS bH z).1],.bool (pS bH z).2]):=by
   have aQ:pS bH z=pS bH z:=rfl;conv at aQ=>rhs;unfold pS
   generalize pS bH z=res at aQ⊢;have h1:=l7 hp z (dC hz);have aF: ∀r∈bH++[z],dS r=true:=by intro r h;rcases aaS.1 h with h|h;exact hr r h;simp at h;subst h;exact hz
   have jP:ij (jd (bH++[z])):=by
    have h:=wN aF;refine⟨?_,h.2⟩;have h3:=h.1;simp at h3;simp only[dB];omega
   have h2:=wO hp (bH++[z]) (by intro r h;rcases aaS.1 h with h|h;exact hr r h;simp at h;subst h;exact hz) (by simp;omega);refine MT hp rfl ?_;have S:=aj.nil [];conv=>whnf
   intro k1 a1 eg er;replace S:=S.alloc eg er;conv=>whnf
   intro k2 a2 jS jb;replace S:=S.alloc jS jb;conv=>whnf
   refine ae (fun h0=>?_) (fun h0=>?_)
   ·have wJ:z=[]:=by simpa using h0
    have e:res=(bH,true):=by rw[aQ,if_pos wJ]
    clear aQ;subst e;refine aC (S.row 1 rfl) ?_;conv=>whnf
    conv=>whnf
    refine⟨_,rfl,rfl,rfl,.inl ⟨_,S.row 0 rfl,rfl,?_⟩⟩;conv=>whnf
    intro a3 nq;replace S:=S.w0 nq;conv=>whnf
    exact⟨_,aS rfl rfl (S.row 0 rfl) rfl rfl,_,_,rfl,rfl⟩
   ·have wJ:z≠[]:=by intro e;subst e;simp at h0
    rw[if_neg wJ]at aQ;refine aC (S.row 1 rfl) ?_;conv=>whnf
    conv=>whnf
    refine⟨trivial,?_⟩;conv=>whnf
    refine⟨bH.map aI.enc,rfl,by rw[List.all_map,aaj];intro _ _;rfl,?_⟩;rw[<-Fy (bH.map aI.enc)];refine kT (aj.nF Po 1 S) (by simp[bB];omega) fun D1 w1 Gh S1=>?_;have hc:D1.cells=[D1]:=by rcases Gh with rfl|⟨_,rfl⟩<;>rfl
    replace S:=S1;clear S1;rw[List.nil_append]at S Gh;conv=>whnf
    refine dG S h1 rfl rfl fun w q1 F3 S1=>?_;clear S h1;have S:=S1;clear S1;have ow:cq q1 (aI.d z) w F3:=(aj.ek S).get 0 rfl;conv=>whnf
    refine ep ow.cell.1 ?_;conv=>whnf
    intro pI pJ dT dU;replace S:=S.alloc dT dU;conv=>whnf
    refine⟨trivial,?_⟩;conv=>whnf
    refine⟨[_],bT (S.row 0 rfl),dI ow.cell.1 ow.cell.2,?_⟩;replace S:=S.drop 0;dsimp only[List.eraseIdx]at S;refine qp (f:=Po) (x:=w) S.swap (by simp[bB];omega) fun k4 a5 S2 _=>?_;clear S;have S:=S2;clear S2;conv=>whnf
    intro k5 a6 CS qJ;replace S:=S.alloc CS qJ;conv=>whnf
    refine⟨_,rfl,rfl,rfl,.inl ⟨_,S.row 0 rfl,rfl,?_⟩⟩;conv=>whnf
    intro a7 RK;replace S:=S.w0 RK;conv=>whnf
    have S':aj a7 [.row k5 (.box (.agg [.own k4 0 (bH.map aI.enc++[w]).length])),.acc Po 1 (bH.map aI.enc++[w]) (.own k4 0 (bH.map aI.enc++[w]).length),.jA 2 (z.map Item.d) w F3,.row k2 (.box (.agg [.nil])),.row k1 (.box (.agg [bX.enc bH]))]:=S;clear S;have S:=S';clear S';refine aC (S.row 0 rfl) ?_;conv=>whnf
    conv=>whnf
    replace S:=S.pick [1,2,0,3,4] (by decide);simp only[lY,aaT,abd]at S;obtain⟨F0,S1⟩:=aj.ab1 S;replace S:=S1;clear S1;generalize af.own k4 0 (bH.map aI.enc++[w]).length=D at S⊢;have hx:XR a7 (bH++[z]) D F0:=S.get 0 rfl;refine dG S h2 rfl (bu hx.snap rfl) fun u q2 F4 S1=>?_;have hu:cq q2 (aI.d (jd (bH++[z]))) u F4:=(aj.ek S1).get 0 rfl;clear S h2 hx;have S:=S1.drop 0;dsimp only[List.eraseIdx]at S;clear S1;conv=>whnf
    refine⟨_,dK.here (iU hp _ jP) (bu (aI.iT hu) rfl) rfl rfl,?_⟩;clear hu;conv=>whnf
    refine ae (fun g1=>?_) (fun g1=>?_)
    ·rw[if_pos g1]at aQ;conv=>whnf
     have RN:=RM (xs:=bH++[z]) (by simp;omega) aF;obtain⟨T,hT0⟩: ∃T,j5 (bH.length+1) (bH++[z])=T:=⟨_,rfl⟩;rw[hT0]at aQ;refine dQ (fun m tm hp=>∃(cur:List (List Item))(D:af)(F:List Nat),cur.length<=m/\j5 m cur=T/\WD 1000 cur/\cur.length<=10/\aj hp [.xr cur D F,.row k5 (.box (.agg [D])),.row k2 (.box (.agg [.nil])),.row k1 (.box (.agg [bX.enc bH]))]) (fun m tm hq bG hI=>?_) (bH.length+1) ⟨bH++[z],D,F0,by simp,hT0,RN,by simp;omega,S⟩;clear S RN;obtain⟨cur,E,F1,hm,hT,xn,Lo,S⟩:=hI;have e2:=bG 2 (by kernel_rfl);conv at e2=>rhs;whnf
     have e4:=bG 4 (by kernel_rfl);conv at e4=>rhs;whnf
     have e6:=bG 6 (by kernel_rfl);conv at e6=>rhs;whnf
     refine⟨[(2,_),(4,_),(6,_)],⟨e2,e4,e6,trivial⟩,?_⟩;clear bG e2 e4 e6;refine aC (S.row 1 rfl) ?_;conv=>whnf
     have hx:XR hq cur E F1:=S.get 0 rfl;have gu:=BI (aah _) (by omega) xn;have eb:cj (dZ pr) (call (dZ pr)) 127 [.agg [E]] hq=some (.ret (.bool (fq cur)) hq):=dK.here (h:=hq) (qN hp cur gu) (bu hx.snap rfl) rfl rfl;have MU:cj (dZ pr) (call (dZ pr)) 161 [.agg [E]] hq=some (.ret (.bool (zk cur)) hq):=dK.here (h:=hq) (RG hp cur gu) (bu hx.snap rfl) rfl rfl
     have BJ: ∀c∈[Chunk.row k2 (.box (.agg [.nil])),Chunk.row k1 (.box (.agg [bX.enc bH]))],Calm c:=by
      intro c hc;simp only[aaz,List.not_mem_nil,or_false]at hc;rcases hc with rfl|rfl<;>exact IP fun _ _=>rfl
     have TY:2<=cur.length->(5<cur.length∨(1<cur.length/\fq cur=false))->j5 (m-1) (gW cur)=T:=fun xt hc=>by
      rw[<-hT];conv=>rhs;rw[show m=(m-1)+1 by omega]
      unfold j5;rw[if_pos hc];cases m-1<;>rfl
     have sn: ¬(5<cur.length∨(1<cur.length/\fq cur=false))->cur=T:=fun hc=>by
      rw[<-hT]
      cases m with
      |zero=>rfl
      |succ m=>unfold j5;rw[if_neg hc]
     rcases hx.cases with⟨rfl,hn⟩|rfl|⟨id,rfl⟩
     ·have jM:cur.length=0:=by rw[hn];rfl
      have dN:cur=T:=sn (by omega);refine aC (S.row 1 rfl) ?_;conv=>whnf
      refine aC (S.row 1 rfl) ?_;conv=>whnf
      refine⟨_,MU,?_⟩;clear eb MU;conv=>whnf
      refine ae (fun g6=>?_) (fun g6=>?_)
      ·have e:res=(cur,true):=by rw[aQ,<-dN,if_pos g6]
       clear aQ;subst e;refine aC (S.row 1 rfl) ?_;conv=>whnf
       conv=>whnf
       refine⟨_,rfl,rfl,rfl,.inl ⟨_,S.row 2 rfl,rfl,?_⟩⟩;conv=>whnf
       intro a8 fH;replace S:=S.w2 fH;conv=>whnf
       exact⟨_,aS rfl rfl (S.row 2 rfl) rfl rfl,_,_,rfl,XR.ti (S.get 0 rfl) _⟩
      ·have e:res=(bH,false):=by rw[aQ,<-dN,if_neg (by simp[g6])]
       clear aQ;subst e;refine aC (S.row 3 rfl) ?_;conv=>whnf
       conv=>whnf
       refine⟨_,rfl,rfl,rfl,.inl ⟨_,S.row 2 rfl,rfl,?_⟩⟩;conv=>whnf
       intro a8 fH;replace S:=S.w2 fH;conv=>whnf
       exact⟨_,aS rfl rfl (S.row 2 rfl) rfl rfl,_,_,rfl,rfl⟩
     ·conv=>whnf
      refine ae (fun g2=>?_) (fun g2=>?_)
      ·have xt:2<=cur.length:=by simp at g2;omega
       have dN:=TY xt (.inl (by simp at g2;omega));obtain⟨q3,D3,rV,S3,_⟩:=yi rfl S BJ (qT hp cur xt Lo xn);have fK:=px xt;have yj:=oe xt xn;refine aC (S.row 1 rfl) ?_;conv=>whnf
       refine⟨_,rV,?_⟩;clear S rV eb MU hx;have S:=aj.OQ (gW cur) (S3.drop 0);clear S3;conv=>whnf
       refine⟨_,rfl,rfl,rfl,.inl ⟨_,S.row 1 rfl,rfl,?_⟩⟩;conv=>whnf
       intro a9 BK;replace S:=S.w1 BK;conv=>whnf
       exact⟨m-1,by omega,gW cur,_,_,by omega,dN,yj,by omega,S⟩
      ·refine aC (S.row 1 rfl) ?_;conv=>whnf
       refine ae (fun g4=>?_) (fun g4=>?_)
       ·have xt:2<=cur.length:=by simp at g4;omega
        refine aC (S.row 1 rfl) ?_;conv=>whnf
        refine⟨_,eb,?_⟩;conv=>whnf
        refine ae (fun g5=>?_) (fun g5=>?_)
        ·have dN:cur=T:=sn (by intro h;rcases h with h|⟨_,h⟩;simp at g2;omega;rw[g5]at h;cases h);refine aC (S.row 1 rfl) ?_;conv=>whnf
         refine⟨_,MU,?_⟩;clear eb MU;conv=>whnf
         refine ae (fun g6=>?_) (fun g6=>?_)
         ·have e:res=(cur,true):=by rw[aQ,<-dN,if_pos g6]
          clear aQ;subst e;refine aC (S.row 1 rfl) ?_;conv=>whnf
          conv=>whnf
          refine⟨_,rfl,rfl,rfl,.inl ⟨_,S.row 2 rfl,rfl,?_⟩⟩;conv=>whnf
          intro a8 fH;replace S:=S.w2 fH;conv=>whnf
          exact⟨_,aS rfl rfl (S.row 2 rfl) rfl rfl,_,_,rfl,XR.ti (S.get 0 rfl) _⟩
         ·have e:res=(bH,false):=by rw[aQ,<-dN,if_neg (by simp[g6])]
          clear aQ;subst e;refine aC (S.row 3 rfl) ?_;conv=>whnf
          conv=>whnf
          refine⟨_,rfl,rfl,rfl,.inl ⟨_,S.row 2 rfl,rfl,?_⟩⟩;conv=>whnf
          intro a8 fH;replace S:=S.w2 fH;conv=>whnf
          exact⟨_,aS rfl rfl (S.row 2 rfl) rfl rfl,_,_,rfl,rfl⟩
        ·have dN:=TY xt (.inr ⟨by omega,g5⟩);obtain⟨q3,D3,rV,S3,_⟩:=yi rfl S BJ (qT hp cur xt Lo xn);have fK:=px xt;have yj:=oe xt xn;refine aC (S.row 1 rfl) ?_;conv=>whnf
         refine⟨_,rV,?_⟩;clear S rV eb MU hx;have S:=aj.OQ (gW cur) (S3.drop 0);clear S3;conv=>whnf
         refine⟨_,rfl,rfl,rfl,.inl ⟨_,S.row 1 rfl,rfl,?_⟩⟩;conv=>whnf
         intro a9 BK;replace S:=S.w1 BK;conv=>whnf
         exact⟨m-1,by omega,gW cur,_,_,by omega,dN,yj,by omega,S⟩
       ·have dN:cur=T:=sn (by intro h;simp at g2 g4;omega);refine aC (S.row 1 rfl) ?_;conv=>whnf
        refine⟨_,MU,?_⟩;clear eb MU;conv=>whnf
        refine ae (fun g6=>?_) (fun g6=>?_)
        ·have e:res=(cur,true):=by rw[aQ,<-dN,if_pos g6]
         clear aQ;subst e;refine aC (S.row 1 rfl) ?_;conv=>whnf
         conv=>whnf
         refine⟨_,rfl,rfl,rfl,.inl ⟨_,S.row 2 rfl,rfl,?_⟩⟩;conv=>whnf
         intro a8 fH;replace S:=S.w2 fH;conv=>whnf
         exact⟨_,aS rfl rfl (S.row 2 rfl) rfl rfl,_,_,rfl,XR.ti (S.get 0 rfl) _⟩
        ·have e:res=(bH,false):=by rw[aQ,<-dN,if_neg (by simp[g6])]
         clear aQ;subst e;refine aC (S.row 3 rfl) ?_;conv=>whnf
         conv=>whnf
         refine⟨_,rfl,rfl,rfl,.inl ⟨_,S.row 2 rfl,rfl,?_⟩⟩;conv=>whnf
         intro a8 fH;replace S:=S.w2 fH;conv=>whnf
         exact⟨_,aS rfl rfl (S.row 2 rfl) rfl rfl,_,_,rfl,rfl⟩
     ·conv=>whnf
      refine ae (fun g2=>?_) (fun g2=>?_)
      ·have xt:2<=cur.length:=by simp at g2;omega
       have dN:=TY xt (.inl (by simp at g2;omega));obtain⟨q3,D3,rV,S3,_⟩:=yi rfl S BJ (qT hp cur xt Lo xn);have fK:=px xt;have yj:=oe xt xn;refine aC (S.row 1 rfl) ?_;conv=>whnf
       refine⟨_,rV,?_⟩;clear S rV eb MU hx;have S:=aj.OQ (gW cur) (S3.drop 0);clear S3;conv=>whnf
       refine⟨_,rfl,rfl,rfl,.inl ⟨_,S.row 1 rfl,rfl,?_⟩⟩;conv=>whnf
       intro a9 BK;replace S:=S.w1 BK;conv=>whnf
       exact⟨m-1,by omega,gW cur,_,_,by omega,dN,yj,by omega,S⟩
      ·refine aC (S.row 1 rfl) ?_;conv=>whnf
       refine ae (fun g4=>?_) (fun g4=>?_)
       ·have xt:2<=cur.length:=by simp at g4;omega
        refine aC (S.row 1 rfl) ?_;conv=>whnf
        refine⟨_,eb,?_⟩;conv=>whnf
        refine ae (fun g5=>?_) (fun g5=>?_)
        ·have dN:cur=T:=sn (by intro h;rcases h with h|⟨_,h⟩;simp at g2;omega;rw[g5]at h;cases h);refine aC (S.row 1 rfl) ?_;conv=>whnf
         refine⟨_,MU,?_⟩;clear eb MU;conv=>whnf
         refine ae (fun g6=>?_) (fun g6=>?_)
         ·have e:res=(cur,true):=by rw[aQ,<-dN,if_pos g6]
          clear aQ;subst e;refine aC (S.row 1 rfl) ?_;conv=>whnf
          conv=>whnf
          refine⟨_,rfl,rfl,rfl,.inl ⟨_,S.row 2 rfl,rfl,?_⟩⟩;conv=>whnf
          intro a8 fH;replace S:=S.w2 fH;conv=>whnf
          exact⟨_,aS rfl rfl (S.row 2 rfl) rfl rfl,_,_,rfl,XR.ti (S.get 0 rfl) _⟩
         ·have e:res=(bH,false):=by rw[aQ,<-dN,if_neg (by simp[g6])]
          clear aQ;subst e;refine aC (S.row 3 rfl) ?_;conv=>whnf
          conv=>whnf
          refine⟨_,rfl,rfl,rfl,.inl ⟨_,S.row 2 rfl,rfl,?_⟩⟩;conv=>whnf
          intro a8 fH;replace S:=S.w2 fH;conv=>whnf
          exact⟨_,aS rfl rfl (S.row 2 rfl) rfl rfl,_,_,rfl,rfl⟩
        ·have dN:=TY xt (.inr ⟨by omega,g5⟩);obtain⟨q3,D3,rV,S3,_⟩:=yi rfl S BJ (qT hp cur xt Lo xn);have fK:=px xt;have yj:=oe xt xn;refine aC (S.row 1 rfl) ?_;conv=>whnf
         refine⟨_,rV,?_⟩;clear S rV eb MU hx;have S:=aj.OQ (gW cur) (S3.drop 0);clear S3;conv=>whnf
         refine⟨_,rfl,rfl,rfl,.inl ⟨_,S.row 1 rfl,rfl,?_⟩⟩;conv=>whnf
         intro a9 BK;replace S:=S.w1 BK;conv=>whnf
         exact⟨m-1,by omega,gW cur,_,_,by omega,dN,yj,by omega,S⟩
       ·have dN:cur=T:=sn (by intro h;simp at g2 g4;omega);refine aC (S.row 1 rfl) ?_;conv=>whnf
        refine⟨_,MU,?_⟩;clear eb MU;conv=>whnf
        refine ae (fun g6=>?_) (fun g6=>?_)
        ·have e:res=(cur,true):=by rw[aQ,<-dN,if_pos g6]
         clear aQ;subst e;refine aC (S.row 1 rfl) ?_;conv=>whnf
         conv=>whnf
         refine⟨_,rfl,rfl,rfl,.inl ⟨_,S.row 2 rfl,rfl,?_⟩⟩;conv=>whnf
         intro a8 fH;replace S:=S.w2 fH;conv=>whnf
         exact⟨_,aS rfl rfl (S.row 2 rfl) rfl rfl,_,_,rfl,XR.ti (S.get 0 rfl) _⟩
        ·have e:res=(bH,false):=by rw[aQ,<-dN,if_neg (by simp[g6])]
         clear aQ;subst e;refine aC (S.row 3 rfl) ?_;conv=>whnf
         conv=>whnf
         refine⟨_,rfl,rfl,rfl,.inl ⟨_,S.row 2 rfl,rfl,?_⟩⟩;conv=>whnf
         intro a8 fH;replace S:=S.w2 fH;conv=>whnf
         exact⟨_,aS rfl rfl (S.row 2 rfl) rfl rfl,_,_,rfl,rfl⟩
    ·have e:res=(bH,false):=by rw[aQ,if_neg (by simp[g1])]
     clear aQ;subst e;refine aC (S.row 3 rfl) ?_;conv=>whnf
     conv=>whnf
     refine⟨_,rfl,rfl,rfl,.inl ⟨_,S.row 2 rfl,rfl,?_⟩⟩;conv=>whnf
     intro a8 fH;replace S:=S.w2 fH;conv=>whnf
     exact⟨_,aS rfl rfl (S.row 2 rfl) rfl rfl,_,_,rfl,rfl⟩
def zl(xs:List (List Item)):Int:=IntKind.i64.wrap ((((xs[xs.length-2]?).getD []).length:Int)+((xs[xs.length-1]?).getD []).length)
def jQ:Nat->List (List Item)->Int->List (List Item)×Int
 |0,xs,f=>(xs,f)
 |n+1,xs,f=>if 1<xs.length then(if zl xs>f∨fq (gW xs)=false then(xs,f)else jQ n (gW xs) (IntKind.i64.wrap (f-zl xs)))else(xs,f)
def eW(bH:List (List Item))(fuel:Int):List (List Item)×Int:=if fq bH&& !decide (fuel<0)then jQ bH.length bH fuel else([],0)
theorem cq.sls{h:aG}{d:bg}{xs:List af}{D:af}{F:List Nat}(ho:cq h d D F)(he:d.enc= .sl xs):(D= .nil/\xs=[])∨D= .sl xs∨ ∃id,D= .own id 0 xs.length:=by
 cases d with
 |s sz ds=>
  simp only[bg.enc,af.sl.injEq]at he;have hl:ds.length=xs.length:=by have:=congrArg List.length he;simpa[bg.eH]using this
  simp only[cq]at ho;rcases ho with⟨h1,_,rfl|rfl⟩|⟨id,vs,Fs,rfl,_⟩
  ·subst h1;exact .inl ⟨rfl,aaM.1 (by simpa using hl.symm)⟩
  ·subst h1;exact .inr (.inl (by rw[aaM.1 (show xs.length=0 by simpa using hl.symm)]))
  ·exact .inr (.inr ⟨id,by rw[hl]⟩)
 |a sz ds=>
  simp only[bg.enc,af.sl.injEq]at he;have hl:ds.length=xs.length:=by have:=congrArg List.length he;simpa[bg.eH]using this
  simp only[cq]at ho;rcases ho with⟨h1,_,rfl⟩|⟨id,vs,Fs,rfl,_⟩
  ·subst h1;exact .inl ⟨rfl,aaM.1 (by simpa using hl.symm)⟩
  ·exact .inr (.inr ⟨id,by rw[hl]⟩)
 |v x=>simp only[cq]at ho;rw[ho.1];exact .inr (.inl he)
 |i x=>simp[bg.enc,i64]at he
 |b x=>simp[bg.enc]at he
 |p q=>obtain⟨cs,hc⟩:=tR q;simp only[bg.enc,hc]at he;cases he
 |g ds=>simp[bg.enc]at he
theorem cZ.get{h:aG}: ∀{ds:List bg}{vs:List af}{F:List Nat},cZ h ds vs F-> ∀(i:Nat) d,ds[i]?=some d-> ∃v G,vs[i]?=some v/\cq h d v G
 | [],vs,F,hp,i,d,hd=>by simp at hd
 |p::ps,vs,F,hp,i,d,hd=>by
  simp only[cZ]at hp;obtain⟨v,fx,F1,F2,rfl,rfl,h1,h2⟩:=hp
  cases i with
  |zero=>simp at hd;subst hd;exact⟨v,F1,rfl,h1⟩
  |succ i=>simp at hd;exact cZ.get h2 i d hd
theorem XR.Za{h:aG}{cur:List (List Item)}{E:af}{F:List Nat}(ho:cq h (bX.d cur) E F)(mD: ∀r∈cur,r≠[]):
  (cur=[]/\(E= .nil∨E= .sl []))∨ ∃id vs,E= .own id 0 cur.length/\h[id]?=some (.arr 1 vs)/\vs.length=cur.length/\ ∀(i:Nat) r,cur[i]?=some r-> ∃u,vs[i]?=some u/\ ∃id,u= .own id 0 r.length:=by
   unfold bX.d at ho;simp only[cq]at ho;rcases ho with⟨h1,_,h2⟩|⟨zS,vs,Fs,h,h5,h6,_⟩
   ·exact .inl ⟨by simpa using h1,h2⟩
   ·refine .inr ⟨zS,vs,by rw[h];simp,h5,by rw[iw h6];simp,fun i r hi=>?_⟩;obtain⟨v,G,h7,h8⟩:=cZ.get h6 i (aI.d r) (by simp[hi]);refine⟨v,h7,?_⟩;unfold aI.d at h8;simp only[cq]at h8;rcases h8 with⟨h1,_,_⟩|⟨id,_,_,h,_⟩
    ·exact absurd (by simpa using h1) (mD r (aaq hi))
    ·exact⟨id,by rw[h];simp⟩
theorem IQ{bH:List (List Item)}(h:fq bH=true): ∀z∈bH,z≠[]:=by
 have key: ∀(rest done:List (List Item)),qe done rest=true-> ∀z∈rest,z≠[]:=by
  intro rest
  induction rest with
  |nil=>intro done _ z hz;simp at hz
  |cons y ys ih=>
   intro done h z hz;simp only[qe,xz]at h;rcases aaz.1 hz with rfl|hz
   ·have:=h.1.2;intro e;subst e;simp at this
   ·exact ih _ h.2.2 z hz
 simp only[fq,xz]at h;exact key _ _ h.2
theorem iW(xs:List (List Item)):(bX.d xs).dep<=20:=by
 have: ∀ys:List (List Item),bg.dO (ys.map aI.d)<=15:=by
  intro ys
  induction ys with
  |nil=>simp[bg.dO]
  |cons y ys ih=>have:=lG y;simp only[aao,bg.dO];omega
 have:=this xs;simp only[bX.d,bg.dep];omega
theorem BL(xs:List (List Item)):(bX.d xs).CP=true:=by
 have: ∀ys:List (List Item),bg.pR (ys.map aI.d)=true:=by
  intro ys
  induction ys with
  |nil=>rfl
  |cons y ys ih=>simp only[aao,bg.pR,yh,ih,Bool.and_self]
 simp only[bX.d,bg.CP,this]
theorem XR.box{h:aG}{bH:List (List Item)}{v:af}{F:List Nat}(ho:cq h (.g [bX.d bH]) v F): ∃D,v= .agg [D]/\cq h (bX.d bH) D F:=by
 obtain⟨vs,rfl,hu⟩:=iF.1 ho;obtain⟨D,u1,H1,G1,rfl,rfl,g1,h2⟩:=l6.1 hu;obtain⟨rfl,rfl⟩:=fO.1 h2;exact⟨D,rfl,by rw[aaw];exact g1⟩
theorem XR.zm{h:aG}{cur:List (List Item)}{D:af}{F:List Nat}(hx:XR h cur D F)(n:Int):Am.snap h (.eT [.agg [D],i64 n])=some (.eT [.agg [bX.enc cur],i64 n]):=by
 obtain⟨d,ho,_,h2,he,_⟩:=hx.dL;have:=cZ.ti (iH ho (uq n)) (by simp only[bg.dO,bg.dep];omega);rw[this];simp only[bg.dv,he];rfl
theorem Lq(hp:cF pr)(bH:List (List Item))(fuel:Int)(hr:s7 bH):
  Fz pr 139 [.agg [bX.enc bH],i64 fuel] (.eT [.agg [bX.enc (eW bH fuel).1],i64 (eW bH fuel).2]):=by
   have aQ:eW bH fuel=eW bH fuel:=rfl;conv at aQ=>rhs;unfold eW
   generalize eW bH fuel=res at aQ⊢;have h1:=qN hp bH hr;have h2:=BG hp bH hr;refine MT hp rfl ?_;have S:=aj.nil [];conv=>whnf
   intro k1 a1 eg er;replace S:=S.alloc eg er;conv=>whnf
   intro k2 a2 jS jb;replace S:=S.alloc jS jb;refine aC (S.row 1 rfl) ?_;conv=>whnf
   refine⟨_,h1 _,?_⟩;conv=>whnf
   refine ae (fun g1=>?_) (fun g1=>?_)
   ·conv=>whnf
    refine ae (fun g2=>?_) (fun g2=>?_)
    ·have e:res=([],0):=by rw[aQ,g2];simp[g1]
     clear aQ;subst e;conv=>whnf
     refine⟨_,rfl,rfl,rfl,.inl ⟨_,S.row 0 rfl,rfl,?_⟩⟩;conv=>whnf
     intro a3 nq;replace S:=S.w0 nq;conv=>whnf
     exact⟨_,aS rfl rfl (S.row 0 rfl) rfl rfl,_,_,rfl,rfl⟩
    ·have TY:res=jQ bH.length bH fuel:=by rw[aQ,g1,g2];rfl
     clear aQ;obtain⟨hl5,hz5⟩:=eo g1;refine aC (S.row 1 rfl) ?_;conv=>whnf
     refine fp S h2 rfl rfl fun v q1 F1 ow S1=>?_;clear S;have S:=S1;clear S1 h1 h2;obtain⟨D,rfl,SM⟩:=XR.box ow;replace S:=S.is (c':=.dL (bX.d bH) D F1) SM rfl;conv=>whnf
     intro k3 a4 mF lI;replace S:=S.alloc mF lI;conv=>whnf
     have hcD:[D].all af.bQ=true:=by simp[(show cq q1 (.s 1 (bH.map aI.d)) D F1 from SM).cell.2]
     refine⟨_,rfl,rfl,hcD,.inl ⟨_,S.row 0 rfl,rfl,?_⟩⟩;conv=>whnf
     intro a5 IN;replace S:=S.w0 IN;conv=>whnf
     have mD: ∀r∈bH,r≠[]:=IQ g1;have RN:=RM (xs:=bH) (by omega) hz5;replace S:=S.swap;have ow2:cq a5 (bX.d bH) D F1:=S.get 0 rfl;replace S:=S.is (c':=.xr bH D F1) ⟨bX.d bH,ow2,BL bH,iW bH,bX.fG bH⟩ rfl;refine dQ (fun m tm hp=>∃(cur:List (List Item))(f:Int)(D:af)(F:List Nat),cur.length<=m/\jQ m cur f=res/\WD 1000 cur/\cur.length<=10/\(D= .sl (cur.map aI.enc)∨((∀r∈cur,r≠[])/\cq hp (bX.d cur) D F))/\tm 1=i64 f/\aj hp [.xr cur D F,.row k3 (.box (.agg [D])),.row k2 (.box (.agg [.nil])),.row k1 (.box (.agg [bX.enc bH]))]) (fun m tm hq bG hI=>?_) bH.length ⟨bH,fuel,D,F1,aah _,TY.symm,RN,by omega,.inr ⟨mD,ow2⟩,rfl,S⟩;clear S RN;obtain⟨cur,f,E,F0,hm,hT,xn,Lo,hE,e1,S⟩:=hI;have e2:=bG 2 (by kernel_rfl);conv at e2=>rhs;whnf
     have e4:=bG 4 (by kernel_rfl);conv at e4=>rhs;whnf
     have e6:=bG 6 (by kernel_rfl);conv at e6=>rhs;whnf
     refine⟨[(1,_),(2,_),(4,_),(6,_)],⟨e1,e2,e4,e6,trivial⟩,?_⟩;clear bG e1 e2 e4 e6;refine aC (S.row 1 rfl) ?_;conv=>whnf
     have hx:XR hq cur E F0:=S.get 0 rfl;have gu:=BI (aah _) (by omega) xn
     have BJ: ∀c∈[Chunk.row k2 (.box (.agg [.nil])),Chunk.row k1 (.box (.agg [bX.enc bH]))],Calm c:=by
      intro c hc;simp only[aaz,List.not_mem_nil,or_false]at hc;rcases hc with rfl|rfl<;>exact IP fun _ _=>rfl
     have sn: ¬1<cur.length->res=(cur,f):=fun hc=>by
      rw[<-hT]
      cases m with
      |zero=>rfl
      |succ m=>unfold jQ;rw[if_neg hc]
     have Lr:1<cur.length->res=if zl cur>f∨fq (gW cur)=false then(cur,f)else jQ (m-1) (gW cur) (IntKind.i64.wrap (f-zl cur)):=fun hc=>by
      rw[<-hT];obtain⟨m',rfl⟩: ∃k,m=k+1:=⟨m-1,by omega⟩;conv=>lhs;unfold jQ
      rw[if_pos hc];rfl
     rcases hE with rfl|⟨mD,ho⟩
     ·conv=>whnf
      refine ae (fun g3=>?_) (fun g3=>?_)
      ·have xt:2<=cur.length:=by simp at g3;omega
       obtain⟨y,hy⟩: ∃y,cur[cur.length-2]?=some y:=⟨_,aab (by omega)⟩;obtain⟨z,hz⟩: ∃z,cur[cur.length-1]?=some z:=⟨_,aab (by omega)⟩;have RO:zl cur=IntKind.i64.wrap ((y.length:Int)+z.length):=by simp[zl,hy,hz]
       have yk:=Lr (by omega);clear Lr sn;rw[RO]at yk;have CQ:IntKind.i64.wrap (((cur.map aI.enc).length:Int)-2)=((cur.length-2:Nat):Int):=by rw[aaC,aat];omega
       have Cq:IntKind.i64.wrap (((cur.map aI.enc).length:Int)-1)=((cur.length-1:Nat):Int):=by rw[aaC,aat];omega
       have jk:(cur.map aI.enc)[cur.length-2]?=some (aI.enc y):=by simp[hy]
       have O9:(cur.map aI.enc)[cur.length-1]?=some (aI.enc z):=by simp[hz]
       refine aC (S.row 1 rfl) ?_;conv=>whnf
       refine aC (S.row 1 rfl) ?_;conv=>whnf
       refine⟨aI.enc y,by rw[CQ];exact jk,by rw[CQ];omega,rfl,?_⟩;refine aC (S.row 1 rfl) ?_;conv=>whnf
       refine⟨aI.enc z,by rw[Cq];exact O9,by rw[Cq];omega,rfl,?_⟩;conv=>whnf
       obtain⟨q3,D3,rV,S3,_⟩:=yi rfl S BJ (qT hp cur xt Lo xn);have fK:=px xt;have yj:=oe xt xn;have eb:=qN hp (gW cur) (BI (aah _) (by omega) yj);refine aC (S.row 1 rfl) ?_;conv=>whnf
       refine⟨_,rV,?_⟩;clear S rV hx;have S:=S3;clear S3;have RP:[D3].all af.bQ=true:=by simp[(show XR q3 cur D3 []from S.get 0 rfl).cell.2]
       conv=>whnf
       intro k4 a9 vp qX;replace S:=S.alloc vp qX;conv=>whnf
       refine⟨_,rfl,rfl,rfl,.inl ⟨_,S.row 0 rfl,rfl,?_⟩⟩;conv=>whnf
       intro b1 fw;replace S:=S.w0 fw;conv=>whnf
       refine ae (fun g4=>?_) (fun g4=>?_)
       ·have e:res=(cur,f):=by rw[yk,if_pos (.inl (by simpa using g4))]
        clear yk;subst e;refine aC (S.row 2 rfl) ?_;conv=>whnf
        conv=>whnf
        refine⟨_,rfl,rfl,RP,.inl ⟨_,S.row 3 rfl,rfl,?_⟩⟩;conv=>whnf
        intro a8 fH;replace S:=S.w3 fH;conv=>whnf
        exact⟨_,aS rfl rfl (S.row 3 rfl) rfl rfl,_,_,rfl,XR.zm (S.get 1 rfl) _⟩
       ·refine aC (S.row 0 rfl) ?_;conv=>whnf
        refine⟨_,eb _,?_⟩;conv=>whnf
        refine ae (fun g5=>?_) (fun g5=>?_)
        ·have dN:res=jQ (m-1) (gW cur) (IntKind.i64.wrap (f-IntKind.i64.wrap ((y.length:Int)+z.length))):=by rw[yk,if_neg (by intro h;rcases h with h|h;simp at g4;omega;rw[g5]at h;cases h)]
         refine aC (S.row 0 rfl) ?_;conv=>whnf
         conv=>whnf
         refine⟨_,rfl,rfl,rfl,.inl ⟨_,S.row 2 rfl,rfl,?_⟩⟩;conv=>whnf
         intro b2 ea;replace S:=S.w2 ea;conv=>whnf
         exact⟨m-1,by omega,gW cur,IntKind.i64.wrap (f-IntKind.i64.wrap (((y.map Item.enc).length:Int)+(z.map Item.enc).length)),_,_,by omega,by rw[aat,aat];exact dN.symm,yj,by omega,.inl rfl,rfl,aj.OQ (gW cur) ((S.drop 0).drop 0)⟩
        ·have e:res=(cur,f):=by rw[yk,if_pos (.inr g5)]
         clear yk;subst e;refine aC (S.row 2 rfl) ?_;conv=>whnf
         conv=>whnf
         refine⟨_,rfl,rfl,RP,.inl ⟨_,S.row 3 rfl,rfl,?_⟩⟩;conv=>whnf
         intro a8 fH;replace S:=S.w3 fH;conv=>whnf
         exact⟨_,aS rfl rfl (S.row 3 rfl) rfl rfl,_,_,rfl,XR.zm (S.get 1 rfl) _⟩
      ·have e:=sn (by simp at g3;omega);clear sn Lr;subst e;refine aC (S.row 1 rfl) ?_;conv=>whnf
       conv=>whnf
       refine⟨_,rfl,rfl,rfl,.inl ⟨_,S.row 2 rfl,rfl,?_⟩⟩;conv=>whnf
       intro a8 fH;replace S:=S.w2 fH;conv=>whnf
       exact⟨_,aS rfl rfl (S.row 2 rfl) rfl rfl,_,_,rfl,XR.zm (S.get 0 rfl) _⟩
     rcases XR.Za ho mD with⟨rfl,hv⟩|⟨id,vs,rfl,eQ,CI,kD⟩
     ·have e:=sn (by simp);clear sn Lr;subst e;rcases hv with rfl|rfl
      ·refine aC (S.row 1 rfl) ?_;conv=>whnf
       conv=>whnf
       refine⟨_,rfl,rfl,rfl,.inl ⟨_,S.row 2 rfl,rfl,?_⟩⟩;conv=>whnf
       intro a8 fH;replace S:=S.w2 fH;conv=>whnf
       exact⟨_,aS rfl rfl (S.row 2 rfl) rfl rfl,_,_,rfl,XR.zm (S.get 0 rfl) _⟩
      ·refine aC (S.row 1 rfl) ?_;conv=>whnf
       conv=>whnf
       refine⟨_,rfl,rfl,rfl,.inl ⟨_,S.row 2 rfl,rfl,?_⟩⟩;conv=>whnf
       intro a8 fH;replace S:=S.w2 fH;conv=>whnf
       exact⟨_,aS rfl rfl (S.row 2 rfl) rfl rfl,_,_,rfl,XR.zm (S.get 0 rfl) _⟩
     ·conv=>whnf
      refine ae (fun g3=>?_) (fun g3=>?_)
      ·have xt:2<=cur.length:=by simp at g3;omega
       obtain⟨y,hy⟩: ∃y,cur[cur.length-2]?=some y:=⟨_,aab (by omega)⟩;obtain⟨z,hz⟩: ∃z,cur[cur.length-1]?=some z:=⟨_,aab (by omega)⟩;have RO:zl cur=IntKind.i64.wrap ((y.length:Int)+z.length):=by simp[zl,hy,hz]
       have yk:=Lr (by omega);clear Lr sn;rw[RO]at yk;have CQ:IntKind.i64.wrap ((cur.length:Int)-2)=((cur.length-2:Nat):Int):=by rw[aaC];omega
       have Cq:IntKind.i64.wrap ((cur.length:Int)-1)=((cur.length-1:Nat):Int):=by rw[aaC];omega
       obtain⟨u2,SH,zS,rfl⟩:=kD _ y hy;obtain⟨u1,Z0,id1,rfl⟩:=kD _ z hz;have UZ:vs[0+(IntKind.i64.wrap ((cur.length:Int)-2)).toNat]?=some (.own zS 0 y.length):=by rw[CQ,aaK];exact SH
       have Su:vs[0+(IntKind.i64.wrap ((cur.length:Int)-1)).toNat]?=some (.own id1 0 z.length):=by rw[Cq,aaK];exact Z0
       refine aC (S.row 1 rfl) ?_;conv=>whnf
       refine aC (S.row 1 rfl) ?_;conv=>whnf
       refine⟨vs,eQ,⟨by rw[CQ];omega,by rw[CQ];omega⟩,?_⟩;conv=>whnf
       refine .inr ⟨_,_,_,eQ,UZ,?_⟩;refine aC (S.row 1 rfl) ?_;conv=>whnf
       refine⟨vs,eQ,⟨by rw[Cq];omega,by rw[Cq];omega⟩,?_⟩;conv=>whnf
       refine .inr ⟨_,_,_,eQ,Su,?_⟩;conv=>whnf
       obtain⟨q3,D3,rV,S3,_⟩:=yi rfl S BJ (qT hp cur xt Lo xn);have fK:=px xt;have yj:=oe xt xn;have eb:=qN hp (gW cur) (BI (aah _) (by omega) yj);refine aC (S.row 1 rfl) ?_;conv=>whnf
       refine⟨_,rV,?_⟩;clear S rV hx;have S:=S3;clear S3;have RP:[D3].all af.bQ=true:=by simp[(show XR q3 cur D3 []from S.get 0 rfl).cell.2]
       conv=>whnf
       intro k4 a9 vp qX;replace S:=S.alloc vp qX;conv=>whnf
       refine⟨_,rfl,rfl,rfl,.inl ⟨_,S.row 0 rfl,rfl,?_⟩⟩;conv=>whnf
       intro b1 fw;replace S:=S.w0 fw;conv=>whnf
       refine ae (fun g4=>?_) (fun g4=>?_)
       ·have e:res=(cur,f):=by rw[yk,if_pos (.inl (by simpa using g4))]
        clear yk;subst e;refine aC (S.row 2 rfl) ?_;conv=>whnf
        conv=>whnf
        refine⟨_,rfl,rfl,RP,.inl ⟨_,S.row 3 rfl,rfl,?_⟩⟩;conv=>whnf
        intro a8 fH;replace S:=S.w3 fH;conv=>whnf
        exact⟨_,aS rfl rfl (S.row 3 rfl) rfl rfl,_,_,rfl,XR.zm (S.get 1 rfl) _⟩
       ·refine aC (S.row 0 rfl) ?_;conv=>whnf
        refine⟨_,eb _,?_⟩;conv=>whnf
        refine ae (fun g5=>?_) (fun g5=>?_)
        ·have dN:res=jQ (m-1) (gW cur) (IntKind.i64.wrap (f-IntKind.i64.wrap ((y.length:Int)+z.length))):=by rw[yk,if_neg (by intro h;rcases h with h|h;simp at g4;omega;rw[g5]at h;cases h)]
         refine aC (S.row 0 rfl) ?_;conv=>whnf
         conv=>whnf
         refine⟨_,rfl,rfl,rfl,.inl ⟨_,S.row 2 rfl,rfl,?_⟩⟩;conv=>whnf
         intro b2 ea;replace S:=S.w2 ea;conv=>whnf
         exact⟨m-1,by omega,gW cur,IntKind.i64.wrap (f-IntKind.i64.wrap ((y.length:Int)+z.length)),_,_,by omega,dN.symm,yj,by omega,.inl rfl,rfl,aj.OQ (gW cur) ((S.drop 0).drop 0)⟩
        ·have e:res=(cur,f):=by rw[yk,if_pos (.inr g5)]
         clear yk;subst e;refine aC (S.row 2 rfl) ?_;conv=>whnf
         conv=>whnf
         refine⟨_,rfl,rfl,RP,.inl ⟨_,S.row 3 rfl,rfl,?_⟩⟩;conv=>whnf
         intro a8 fH;replace S:=S.w3 fH;conv=>whnf
         exact⟨_,aS rfl rfl (S.row 3 rfl) rfl rfl,_,_,rfl,XR.zm (S.get 1 rfl) _⟩
      ·have e:=sn (by simp at g3;omega);clear sn Lr;subst e;refine aC (S.row 1 rfl) ?_;conv=>whnf
       conv=>whnf
       refine⟨_,rfl,rfl,rfl,.inl ⟨_,S.row 2 rfl,rfl,?_⟩⟩;conv=>whnf
       intro a8 fH;replace S:=S.w2 fH;conv=>whnf
       exact⟨_,aS rfl rfl (S.row 2 rfl) rfl rfl,_,_,rfl,XR.zm (S.get 0 rfl) _⟩
   ·have e:res=([],0):=by rw[aQ,g1];rfl
    clear aQ;subst e;conv=>whnf
    refine⟨_,rfl,rfl,rfl,.inl ⟨_,S.row 0 rfl,rfl,?_⟩⟩;conv=>whnf
    intro a3 nq;replace S:=S.w0 nq;conv=>whnf
    exact⟨_,aS rfl rfl (S.row 0 rfl) rfl rfl,_,_,rfl,rfl⟩
end Go.Proofs.YtfepbikckfehlaaGreat

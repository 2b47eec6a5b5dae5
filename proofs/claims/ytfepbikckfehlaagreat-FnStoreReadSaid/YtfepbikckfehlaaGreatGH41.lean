/- Draws: plans that are ok. -/
import Derived.Test.YtfepbikckfehlaaGreatGH40
import Derived.Test.YtfepbikckfehlaaGreatGH28
set_option linter.unusedVariables false
set_option linter.unusedSimpArgs false
set_option maxHeartbeats 4000000
namespace Go.Proofs.YtfepbikckfehlaaGreat
open Go Go.Am
variable{pr:bL}(hp:bV pr)
set_option maxRecDepth 100000
theorem JQ{f:FuncId}{args:List af}{h:aC}{L:List Chunk}{k n m:Nat}{P:af->Prop}{K:dz->Prop}(hM:fF f=Am.Mode.R)(SZ:pr f=none)(S:ah h (.rd k n::L))
  (hw: ∀L,ah h (.rd k n::L)->wv (du pr) f args h (fun r=>∃v h1 x CR,r= .ret v h1/\ah h1 (CR:: .rd k m::L)/\(∀h',CR.P h'->Am.snap h' v=some x)/\P x))
  (hK: ∀x h',P x->ah h' (.rd k m::L)->K (.ret x h')): ∃r,bN (du pr) (call (du pr)) f args h=some r/\K r:=by
   obtain⟨x,C1,h2,hc,S2,_,hx,hC⟩:=Tg (Q:=fun x C=>P x/\C= .rd k m) hM S fun L S=>by
    obtain⟨r,hr,v,h1,x,CR,rfl,S1,hs,hx⟩:=cS SZ (hw L S);exact⟨v,h1,x,CR,.rd k m,hr,S1,hs,rfl,hx,rfl⟩
   subst hC;exact⟨_,hc,hK _ _ hx S2⟩
def Hu(aw n:Int)(t:Test)(cells:List Cell)(a b:Int)(ao:List Int)(agg col:Int)(yF:List ba):ba:=
 .g [.i aw,.i n,.v t.enc,.a 4 (cells.map fun c=>.v c.enc),.i a,.i b,.a 1 (ao.map ba.i),.i agg,.i col,.s 19 yF]
theorem wU{aw n:Int}{t:Test}{cells:List Cell}{a b:Int}{ao:List Int}{agg col:Int}{yF:List ba}{al:List ax}(h:yF.map ba.enc=al.map ax.enc):(Hu aw n t cells a b ao agg col yF).enc=(ax.mk aw n t cells a b ao agg col al).enc:=by
 have h1:ba.cz (cells.map fun c=>.v c.enc)=cells.map Cell.enc:=iD (fun c=>rfl) _;simp only[Hu,ba.enc,ba.sL,ba.tA,h1,ba.nb yF,h,ax.enc,C8];rfl
theorem wV{aw n:Int}{t:Test}{cells:List Cell}{a b:Int}{ao:List Int}{agg col:Int}{yF:List ba}(h: ∀d∈yF,d.dep<=4000000):(Hu aw n t cells a b ao agg col yF).dep<=4000003:=by
 have h1:ba.cZ (cells.map fun c=>ba.v c.enc)<=2:=lW fun d hd=>by obtain⟨c,_,rfl⟩:=bj.1 hd;exact aB _
 have h2:=wC ao;have h3:=lW h;simp only[Hu,ba.dep,ba.cZ];omega
theorem wW{h:aC}{L:List Chunk}{aw n:Int}{t:Test}{cells:List Cell}{a b:Int}{ao:List Int}{agg col:Int}{yF:List ba}{C K D:af}{F1 F2 F3:List Nat}
  (S:ah h (.cU (.a 4 (cells.map fun c=>.v c.enc)) C F1:: .cU (.a 1 (ao.map ba.i)) K F2:: .cU (.s 19 yF) D F3::L)):ah h (.cU (Hu aw n t cells a b ao agg col yF) (lL aw n t C a b K agg col D) (F1++(F2++(F3++[])))::L):=by
   refine ah.Tj [.cU (.a 4 (cells.map fun c:Cell=>.v c.enc)) C F1,.cU (.a 1 (ao.map ba.i)) K F2,.cU (.s 19 yF) D F3] S ?_ (by simp[Chunk.cU]);have hv:bP h (.v t.enc) t.enc []:=by unfold bP;exact⟨rfl,rfl,rfl⟩
   exact gx.2 ⟨_,rfl,ee (ee (gJ (F1:=[]) hv (gF (S.get 0 rfl) (ee (ee (gF (S.get 1 rfl) (ee (ee (iF (S.get 2 rfl) gE)))))))))⟩
theorem DY{h:aC}{L:List Chunk}{k m:Nat}{d:ba}{v:af}{F:List Nat}{p:ax}{w:Int}{P:af->Prop}(S:ah h (.cU d v F:: .rd k m::L))(he:d.enc=p.enc)(hd:d.dep<=4100000)(hP:P (.dX [p.enc,i64 w])):
  ∃v' h1 x CR,dz.ret (.dX [v,i64 w]) h= .ret v' h1/\ah h1 (CR:: .rd k m::L)/\(∀h',CR.P h'->Am.snap h' v'=some x)/\P x:=
   ⟨_,_,_,_,rfl,S,fun h' ho=>bZ.rO (eW (show bP h' d v F from ho) (nk w)) (by simp only[ba.cZ,ba.dep];omega),by
    show P (.dX [d.enc,i64 w]);rw[he];exact hP⟩
theorem nJ{h:aC}(p:ax):bP h (.v p.enc) p.enc []:=by
 obtain⟨aw,n,t,cells,a,b,ao,agg,col,al⟩:=p;unfold bP;exact⟨rfl,rfl,rfl⟩
theorem Lj(hp:bV pr)(a b:Int):dm pr 138 [i64 a,i64 b] (i64 (if a<b then a else b)):=by
 refine bY hp rfl rfl ?_
 iterate 4
  all_goals(try(conv=>whnf))
  all_goals(first|(refine ae (fun hb=>?_) (fun hb=>?_))|skip)
 all_goals exact bR (by simp_all;try omega)
theorem Lk(m:Nat):2^(min 2 m)<=2^m:=Nat.pow_le_pow_right (by decide) (Nat.min_le_right _ _)
theorem ah.frozen{h:aC}{L:List Chunk}(q:ax)(S:ah h L):ah h (.cU (.v q.enc) q.enc []::L):=ah.vp (fun _=>nJ q) S
theorem ah.Hv{h:aC}{L:List Chunk}(sz:Nat)(S:ah h L):ah h (.cU (.a sz []) .nil []::L):=ah.vp (fun _=>by unfold bP;exact .inl ⟨rfl,rfl,rfl⟩) S
theorem ah.M7{h:aC}{L:List Chunk}{q:ax}{id:Nat}(S:ah h (.row id (.arr 19 [q.enc])::L)):ah h (.cU (.s 19 [.v q.enc]) (.own id 0 1) [id]::L):=
 ah.close (n:=1) (S.more (c:=.dy [.v q.enc] [q.enc] []) (List.prefix_refl _) (nc (nJ q)) (by simp[Chunk.dy]) (by simp[Chunk.dy])).swap rfl
theorem ah.U4{h:aC}{L:List Chunk}{q r:ax}{id:Nat}(S:ah h (.row id (.arr 19 [q.enc,r.enc])::L)):ah h (.cU (.s 19 [.v q.enc,.v r.enc]) (.own id 0 2) [id]::L):=
 ah.close (n:=2) (S.more (c:=.dy [.v q.enc,.v r.enc] [q.enc,r.enc] []) (List.prefix_refl _) (jY (ps:=[_]) (F:=[]) (G:=[]) (nc (nJ q)) (nc (nJ r))) (by simp[Chunk.dy]) (by simp[Chunk.dy])).swap rfl
theorem ah.Xw{h:aC}{L:List Chunk}{q r:ax}{rv:af}{F:List Nat}{id:Nat}(S:ah h (.row id (.arr 19 [q.enc,rv]):: .cU (.p r) rv F::L)):ah h (.cU (.s 19 [.v q.enc,.p r]) (.own id 0 2) (id::F)::L):=
 ah.close (n:=2) (S.swap.is (c':=.dy [.v q.enc,.p r] [q.enc,rv] F) (jY (ps:=[_]) (F:=[]) (G:=F) (nc (nJ q)) (nc (S.get 1 rfl))) rfl).swap rfl
theorem Hw(hp:bV pr): ∀(d:Nat),d<=10-> ∀{h:aC}{L:List Chunk}{k n:Nat}(S:ah h (.rd k n::L))(hn:n+40*2^d<=100000000000){K:dz->Prop}
  (hK: ∀(p:ax)(w:Int) h',p.sz+20<=40*2^d->0<=w->w<=6->ah h' (.rd k (n+(40*2^d-20))::L)->K (.ret (.dX [p.enc,i64 w]) h')),
  ∃r,bN (du pr) (call (du pr)) 115 [.ptr k 0 0,i64 (d:Nat)] h=some r/\K r:=by
   intro d
   induction d using Nat.strongRecOn with
   |ind d ih=>
   intro hd h L k n S hn K hK
   refine JQ (m:=n+(40*2^d-20)) (P:=fun x=>∃(p:ax)(w:Int),x= .dX [p.enc,i64 w]/\p.sz+20<=40*2^d/\0<=w/\w<=6) rfl (hp.out _ rfl) S (fun L S=>?_) fun x h' hx S1=>by
    obtain⟨p,w,rfl,h1,h2,h3⟩:=hx;exact hK p w h' h1 h2 h3 S1
   clear hK K;have Ew:1<=2^d:=Nat.one_le_two_pow;have HB:2^d<=2^10:=Nat.pow_le_pow_right (by decide) hd;rw[show(2^10:Nat)=1024 by decide]at HB
   -- the ends
   have fin: ∀{h2:aC}{n2:Nat}{aw y:Int}{t:Test}{cells:List Cell}{a b:Int}{ao:List Int}{agg col:Int}{yF:List ba}{al:List ax}{C K D:af}{F1 F2 F3:List Nat}{w:Int}{Q:List Chunk},n2<=n+(40*2^d-20)->yF.map ba.enc=al.map ax.enc->(∀d∈yF,d.dep<=4000000)->cells.length+ao.length+al.length+ax.uD al+20<=40*2^d->0<=w->w<=6->
     ah h2 (.cU (.a 4 (cells.map fun c:Cell=>.v c.enc)) C F1:: .cU (.a 1 (ao.map ba.i)) K F2:: .cU (.s 19 yF) D F3:: .rd k n2::L)->
     ∃v' h1 x CR,dz.ret (.dX [lL aw y t C a b K agg col D,i64 w]) h2= .ret v' h1/\ah h1 (CR:: .rd k (n+(40*2^d-20))::L)/\(∀h',CR.P h'->Am.snap h' v'=some x)/\ ∃(p:ax)(w:Int),x= .dX [p.enc,i64 w]/\p.sz+20<=40*2^d/\0<=w/\w<=6:=by
      intro h2 n2 aw y t cells a b ao agg col yF al C K D F1 F2 F3 w Q U5 he LO je h0 h6 S2;replace S2:=S2.q3;replace S2:=(ah.eh S2 U5).front 3 rfl;dsimp only[List.eraseIdx]at S2;replace S2:=S2.q3;replace S2:=S2.q3;exact DY (p:=.mk aw y t cells a b ao agg col al) (wW S2) (wU he) (by have:=wV (aw:=aw) (n:=y) (t:=t) (cells:=cells) (a:=a) (b:=b) (ao:=ao) (agg:=agg) (col:=col) LO;omega) ⟨_,w,rfl,by simpa only[ax.sz]using je,h0,h6⟩
   have Bs: ∀{h2:aC}{n2:Nat}{aw y:Int}{t:Test}{a b:Int}{agg col:Int}{yF:List ba}{al:List ax}{D:af}{F3:List Nat}{w:Int},n2<=n+(40*2^d-20)->yF.map ba.enc=al.map ax.enc->(∀d∈yF,d.dep<=4000000)->al.length+ax.uD al+20<=40*2^d->0<=w->w<=6->
     ah h2 (.cU (.s 19 yF) D F3:: .rd k n2::L)->
     ∃v' h1 x CR,dz.ret (.dX [lL aw y t .nil a b .nil agg col D,i64 w]) h2= .ret v' h1/\ah h1 (CR:: .rd k (n+(40*2^d-20))::L)/\(∀h',CR.P h'->Am.snap h' v'=some x)/\ ∃(p:ax)(w:Int),x= .dX [p.enc,i64 w]/\p.sz+20<=40*2^d/\0<=w/\w<=6:=by
      intro h2 n2 aw y t a b agg col yF al D F3 w U5 he LO je h0 h6 S2;exact fin (cells:=[]) (ao:=[]) (Q:=[]) U5 he LO (by simp only[List.length_nil];omega) h0 h6 (ah.Hv 4 (ah.Hv 1 S2))
   conv=>whnf
   intro k1 a1 dw dC;replace S:=(S.alloc dw dC).swap;conv=>whnf
   refine ae (fun g1=>?_) (fun g1=>?_)
   ·conv=>whnf
    refine di hp _ S (by omega) fun y h2 hy S1=>?_;replace S:=S1;clear S1;conv=>whnf
    refine⟨_,rfl,rfl,rfl,.inl ⟨_,S.row 1 rfl,rfl,?_⟩⟩;conv=>whnf
    intro h3 Qj;replace S:=S.w1 Qj;conv=>whnf
    exact⟨_,aR rfl rfl (S.row 1 rfl) rfl rfl,Bs (aw:=1) (y:=y) (t:=zT) (a:=0) (b:=0) (agg:=0) (col:=0) (w:=2) (al:=[]) (by omega) rfl (by simp) (by simp[ax.uD];omega) (by decide) (by decide) (ah.vp (d:=.s 19 []) (v:=.nil) (fun _=>jO 19) (S.drop 1))⟩
   have XX:2<=d:=by simp at g1;omega
   obtain⟨m,rfl⟩: ∃m,d=m+1:=⟨d-1,by omega⟩;have SY:2^(m+1)=2*2^m:=by rw[Nat.pow_succ];omega
   have Gn:IntKind.i64.wrap (((m+1:Nat):Int)-1)=(m:Nat):=by rw[aY];omega
   conv=>whnf
   refine di hp _ S (by omega) fun y h2 hy S1=>?_;replace S:=S1;clear S1;conv=>whnf
   refine ae (fun g2=>?_) (fun g2=>?_)
   ·conv=>whnf
    refine di hp _ S (by omega) fun y h2 hy S1=>?_;replace S:=S1;clear S1;conv=>whnf
    refine⟨_,rfl,rfl,rfl,.inl ⟨_,S.row 1 rfl,rfl,?_⟩⟩;conv=>whnf
    intro h3 Qj;replace S:=S.w1 Qj;conv=>whnf
    exact⟨_,aR rfl rfl (S.row 1 rfl) rfl rfl,Bs (aw:=1) (y:=y) (t:=zT) (a:=0) (b:=0) (agg:=0) (col:=0) (w:=2) (al:=[]) (by omega) rfl (by simp) (by simp[ax.uD];omega) (by decide) (by decide) (ah.vp (d:=.s 19 []) (v:=.nil) (fun _=>jO 19) (S.drop 1))⟩
   conv=>whnf
   rw[Gn];refine ih m (by omega) (by omega) S (by omega) fun p w h3 je QF Tm S1=>?_;replace S:=S1;clear S1;obtain⟨aw,pn,⟨tk,qP,⟨t1,t2,t3,t4⟩,⟨t5,t6,t7,t8⟩⟩,cells,pa,pb,ao,agg,col,al⟩:=p;have Nv:1<=2^m:=Nat.one_le_two_pow;conv=>whnf
   intro k2 a2 jf iB;replace S:=(S.alloc jf iB).swap;conv=>whnf
   refine⟨_,rfl,rfl,rfl,.inl ⟨_,S.row 1 rfl,rfl,?_⟩⟩;conv=>whnf
   intro h4 vA;replace S:=S.w1 vA;conv=>whnf
   refine di hp _ S (by omega) fun y h5 hy S1=>?_;replace S:=S1;clear S1;conv=>whnf
   refine ae (fun g3=>?_) (fun g3=>?_)
   ·conv=>whnf
    refine aI (S.row 1 rfl) ?_;conv=>whnf
    intro k3 a3 kS jN;replace S:=(S.alloc kS jN).swap;conv=>whnf
    refine AL hp w S (by omega) fun t h5 S1=>?_;replace S:=S1;clear S1;obtain⟨uk,uno,⟨u1,u2,u3,u4⟩,⟨u5,u6,u7,u8⟩⟩:=t;conv=>whnf
    refine⟨?_,?_⟩
    ·repeat
      ((conv=>whnf);first|trivial|refine⟨by first|((conv=>whnf);exact⟨_,rfl,S.row 1 rfl⟩)|((conv=>whnf);exact bO rfl (S.row 2 rfl) rfl rfl),?_⟩)
    conv=>whnf
    refine⟨_,rfl,rfl,rfl,.inl ⟨_,S.row 3 rfl,rfl,?_⟩⟩;conv=>whnf
    intro h6 fO;replace S:=S.w3 fO;conv=>whnf
    have S2:=((S.drop 2).drop 2).swap;dsimp only[List.eraseIdx]at S2;exact⟨_,aR rfl rfl (S.row 3 rfl) rfl rfl,Bs (aw:=2) (y:=0) (t:=⟨uk,uno,⟨u1,u2,u3,u4⟩,⟨u5,u6,u7,u8⟩⟩) (a:=0) (b:=0) (agg:=0) (col:=0) (w:=w) (al:=[(ax.mk aw pn ⟨tk,qP,⟨t1,t2,t3,t4⟩,⟨t5,t6,t7,t8⟩⟩ cells pa pb ao agg col al)]) (by omega) (by rfl) (by intro d hd;simp at hd;subst hd;show(1:Nat)<=4000000;decide) (by simp only[ax.uD,aJ,List.length_nil];omega) QF Tm (ah.M7 (q:=(ax.mk aw pn ⟨tk,qP,⟨t1,t2,t3,t4⟩,⟨t5,t6,t7,t8⟩⟩ cells pa pb ao agg col al)) S2)⟩
   conv=>whnf
   refine ae (fun g4=>?_) (fun g4=>?_)
   ·conv=>whnf
    refine aI (S.row 1 rfl) ?_;conv=>whnf
    intro k3 a3 kS jN;replace S:=(S.alloc kS jN).swap;conv=>whnf
    refine AL hp w S (by omega) fun t h5 S1=>?_;replace S:=S1;clear S1;obtain⟨uk,uno,⟨u1,u2,u3,u4⟩,⟨u5,u6,u7,u8⟩⟩:=t;conv=>whnf
    refine⟨?_,?_⟩
    ·repeat
      ((conv=>whnf);first|trivial|refine⟨by first|((conv=>whnf);exact⟨_,rfl,S.row 1 rfl⟩)|((conv=>whnf);exact bO rfl (S.row 2 rfl) rfl rfl),?_⟩)
    conv=>whnf
    refine⟨_,rfl,rfl,rfl,.inl ⟨_,S.row 3 rfl,rfl,?_⟩⟩;conv=>whnf
    intro h6 fO;replace S:=S.w3 fO;conv=>whnf
    have S2:=((S.drop 2).drop 2).swap;dsimp only[List.eraseIdx]at S2;exact⟨_,aR rfl rfl (S.row 3 rfl) rfl rfl,Bs (aw:=2) (y:=0) (t:=⟨uk,uno,⟨u1,u2,u3,u4⟩,⟨u5,u6,u7,u8⟩⟩) (a:=0) (b:=0) (agg:=0) (col:=0) (w:=w) (al:=[(ax.mk aw pn ⟨tk,qP,⟨t1,t2,t3,t4⟩,⟨t5,t6,t7,t8⟩⟩ cells pa pb ao agg col al)]) (by omega) (by rfl) (by intro d hd;simp at hd;subst hd;show(1:Nat)<=4000000;decide) (by simp only[ax.uD,aJ,List.length_nil];omega) QF Tm (ah.M7 (q:=(ax.mk aw pn ⟨tk,qP,⟨t1,t2,t3,t4⟩,⟨t5,t6,t7,t8⟩⟩ cells pa pb ao agg col al)) S2)⟩
   conv=>whnf
   refine ae (fun g5=>?_) (fun g5=>?_)
   ·conv=>whnf
    refine aI (S.row 1 rfl) ?_;conv=>whnf
    intro k3 a3 kS jN;replace S:=S.alloc kS jN;conv=>whnf
    intro k4 a4 tN pM;replace S:=S.alloc tN pM;conv=>whnf
    refine⟨_,rfl,rfl,rfl,.inl ⟨_,S.row 0 rfl,rfl,?_⟩⟩;conv=>whnf
    intro h5 mB;replace S:=S.w0 mB;conv=>whnf
    replace S:=S.q2;refine di hp _ S (by omega) fun c h6 hc S1=>?_;replace S:=S1;clear S1;have KP:0<=c/\c<=2:=by unfold QJ at hc;omega
    have hwc:IntKind.i64.wrap (1+c)=1+c:=by rw[aY];omega
    conv=>whnf
    rw[hwc];obtain⟨nn,hnn⟩: ∃nn,nn=n+40*2^m:=⟨_,rfl⟩;replace S:=ah.eh (m:=nn) S (by omega);replace S:=(ah.j7 4 S).swap;refine dh (fun m tm hp=>∃(j:Nat)(C:af)(F:List Nat)(cs:List Cell)(e:Int),j+m=(1+c).toNat/\tm 9=i64 e/\ah hp (.rd k (nn+3*j):: .iA 4 (cs.map fun c:Cell=>.v c.enc) C F:: .row k4 (.box (lL 3 0 zT C 0 0 .nil 0 0 (.own k3 0 1))):: .row k3 (.arr 19 [(ax.mk aw pn ⟨tk,qP,⟨t1,t2,t3,t4⟩,⟨t5,t6,t7,t8⟩⟩ cells pa pb ao agg col al).enc]):: .row k2 (.box (ax.mk aw pn ⟨tk,qP,⟨t1,t2,t3,t4⟩,⟨t5,t6,t7,t8⟩⟩ cells pa pb ao agg col al).enc):: .row k1 (.box (lL 0 0 zT .nil 0 0 .nil 0 0 .nil))::L)/\(cs.length=j)/\(e=1+c-(j:Int))) (fun m tm hq bz hI=>?_) ((1+c).toNat) ⟨0,.nil,[],[],1+c,by simp,rfl,S,(rfl),(by simp)⟩;obtain⟨j,C,F,cs,e,hj,e9,S2,iO,he⟩:=hI;have k0:=bz 0 (by kernel_rfl);conv at k0=>rhs;whnf
    have k4:=bz 4 (by kernel_rfl);conv at k4=>rhs;whnf
    have k6:=bz 6 (by kernel_rfl);conv at k6=>rhs;whnf
    have k7:=bz 7 (by kernel_rfl);conv at k7=>rhs;whnf
    have k8:=bz 8 (by kernel_rfl);conv at k8=>rhs;whnf
    refine⟨[(0,_),(4,_),(6,_),(7,_),(8,_),(9,_)],⟨k0,k4,k6,k7,k8,e9,trivial⟩,?_⟩;clear bz k0 k4 k6 k7 k8 e9;replace S:=S2;clear S2;conv=>whnf
    refine ae (fun gm=>?_) (fun gm=>?_)
    ·have hj:(j:Int)<1+c:=by simp at gm;omega
     have ov:IntKind.i64.wrap (e-1)=e-1:=by rw[aY];omega
     conv=>whnf
     refine aI (S.row 2 rfl) ?_;conv=>whnf
     refine tT hp w S (by omega) fun c0 h7 S1=>?_;replace S:=S1;clear S1;obtain⟨v1,v2,v3,v4⟩:=c0;conv=>whnf
     refine⟨?_,?_⟩
     ·repeat
       ((conv=>whnf);first|trivial|refine⟨by first|((conv=>whnf);exact bO rfl (S.row 2 rfl) rfl rfl),?_⟩)
     conv=>whnf
     replace S:=(ah.vp (d:=.v (Cell.enc ⟨v1,v2,v3,v4⟩)) (v:=Cell.enc ⟨v1,v2,v3,v4⟩) (fun _=>by unfold bP;exact⟨rfl,rfl,rfl⟩) S).front 2 rfl;dsimp only[List.eraseIdx]at S;intro nM nN de dg;replace S:=S.alloc de dg;conv=>whnf
     refine⟨trivial,?_⟩;conv=>whnf
     refine⟨[_],bG (S.row 0 rfl),ef rfl rfl,?_⟩;replace S:=S.drop 0;dsimp only[List.eraseIdx]at S;refine jM (sz:=4) (d:=.v (Cell.enc ⟨v1,v2,v3,v4⟩)) S (by simp[br];omega) fun k5 h8 F5 S1=>?_;clear S;have S:=S1.swap;clear S1;conv=>whnf
     refine⟨_,rfl,rfl,rfl,.inl ⟨_,S.row 2 rfl,rfl,?_⟩⟩;conv=>whnf
     intro h9 lX;replace S:=S.w2 lX;conv=>whnf
     exact⟨m-1,by omega,j+1,_,_,cs++[⟨v1,v2,v3,v4⟩],_,by omega,rfl,ah.eh (by rw[bd];exact S) (by omega),by simp[iO],by rw[aY];omega⟩
    ·have hj: ¬(j:Int)<1+c:=by simp at gm;omega
     conv=>whnf
     refine aI (S.row 2 rfl) ?_;conv=>whnf
     refine aI (S.row 2 rfl) ?_;conv=>whnf
     rcases Br (f:=fun c:Cell=>ba.v c.enc) (qS.VE (show qS 4 _ _ C F from S.get 1 rfl))with⟨rfl,h0⟩|⟨idc,rfl⟩
     ·exfalso;subst h0;simp at iO;omega
     ·conv=>whnf
      refine⟨_,rfl,rfl,rfl,.inl ⟨_,S.row 5 rfl,rfl,?_⟩⟩;conv=>whnf
      intro Xx qK;replace S:=S.w5 qK;conv=>whnf
      refine⟨?_,?_⟩
      ·repeat
        ((conv=>whnf);first|trivial|refine⟨by first|((conv=>whnf);exact bO rfl (S.row 2 rfl) rfl rfl),?_⟩)
      conv=>whnf
      have S2:=(((S.drop 5).drop 4).drop 2).front 2 rfl;dsimp only[List.eraseIdx]at S2;replace S2:=(ah.M7 (q:=(ax.mk aw pn ⟨tk,qP,⟨t1,t2,t3,t4⟩,⟨t5,t6,t7,t8⟩⟩ cells pa pb ao agg col al)) S2).front 2 rfl;dsimp only[List.eraseIdx]at S2;replace S2:=(ah.Hv 1 (ah.pH S2)).swap;exact⟨_,aR rfl rfl (S.row 5 rfl) rfl rfl,fin (aw:=3) (y:=0) (t:=zT) (cells:=cs) (a:=0) (b:=0) (ao:=[]) (agg:=0) (col:=0) (w:=(cs.length:Int)) (al:=[(ax.mk aw pn ⟨tk,qP,⟨t1,t2,t3,t4⟩,⟨t5,t6,t7,t8⟩⟩ cells pa pb ao agg col al)]) (Q:=[]) (by omega) (by rfl) (by intro d hd;simp at hd;subst hd;show(1:Nat)<=4000000;decide) (by simp only[ax.uD,aJ,List.length_nil];omega) (by omega) (by omega) S2⟩
   conv=>whnf
   refine ae (fun g6=>?_) (fun g6=>?_)
   ·conv=>whnf
    rw[Gn];refine⟨_,Lj hp 2 (m:Nat) _,?_⟩;have U6:(if(2:Int)<((m:Nat):Int)then 2 else((m:Nat):Int))=((min 2 m:Nat):Int):=by split<;>omega
    rw[U6];have wH:=Lk m;have hp4:1<=2^(min 2 m):=Nat.one_le_two_pow;conv=>whnf
    refine ih (min 2 m) (by omega) (by omega) S (by omega) fun q w2 h6 Xy tV hv6 S1=>?_;replace S:=S1;clear S1;obtain⟨cd,Tn,⟨RB,Hx,⟨To,Tp,Tq,Tr⟩,⟨Ts,Tt,Tu,Tv⟩⟩,bK,Tw,Tx,cm,cX,jb,bU⟩:=q;conv=>whnf
    intro k3 a3 kS jN;replace S:=(S.alloc kS jN).swap;conv=>whnf
    refine⟨_,rfl,rfl,rfl,.inl ⟨_,S.row 1 rfl,rfl,?_⟩⟩;conv=>whnf
    intro h7 ve;replace S:=S.w1 ve;conv=>whnf
    have U7:IntKind.i64.wrap (w+w2)=w+w2:=by rw[aY];omega
    rw[U7];refine ae (fun gj=>?_) (fun gj=>?_)
    ·conv=>whnf
     refine aI (S.row 2 rfl) ?_;conv=>whnf
     refine⟨_,rfl,rfl,rfl,.inl ⟨_,S.row 3 rfl,rfl,?_⟩⟩;conv=>whnf
     intro h8 nK;replace S:=S.w3 nK;conv=>whnf
     exact⟨_,aR rfl rfl (S.row 3 rfl) rfl rfl,DY (p:=(ax.mk aw pn ⟨tk,qP,⟨t1,t2,t3,t4⟩,⟨t5,t6,t7,t8⟩⟩ cells pa pb ao agg col al)) (w:=w) (ah.frozen (ax.mk aw pn ⟨tk,qP,⟨t1,t2,t3,t4⟩,⟨t5,t6,t7,t8⟩⟩ cells pa pb ao agg col al) (ah.eh (((S.drop 1).drop 1).drop 1) (by omega))) rfl (by show(1:Nat)<=4100000;decide) ⟨_,w,rfl,by omega,QF,Tm⟩⟩
    ·have U8:w+w2<=6:=by simpa using gj
     conv=>whnf
     refine aI (S.row 2 rfl) ?_;conv=>whnf
     refine aI (S.row 1 rfl) ?_;conv=>whnf
     intro k4 a4 tN pM;replace S:=(S.alloc tN pM).swap;conv=>whnf
     refine di hp _ S (by omega) fun x1 h8 Bc S1=>?_;replace S:=S1;clear S1;conv=>whnf
     refine⟨?_,?_⟩
     ·repeat
       ((conv=>whnf);first|trivial|refine⟨by first|((conv=>whnf);exact⟨_,rfl,S.row 1 rfl⟩)|((conv=>whnf);exact bO rfl (S.row 2 rfl) rfl rfl)|((conv=>whnf);exact bO rfl (S.row 3 rfl) rfl rfl),?_⟩)
     conv=>whnf
     refine di hp _ S (by omega) fun x2 h9 xm S1=>?_;replace S:=S1;clear S1;conv=>whnf
     refine⟨?_,?_⟩
     ·repeat
       ((conv=>whnf);first|trivial|refine⟨by first|((conv=>whnf);exact⟨_,rfl,S.row 1 rfl⟩)|((conv=>whnf);exact bO rfl (S.row 2 rfl) rfl rfl)|((conv=>whnf);exact bO rfl (S.row 3 rfl) rfl rfl),?_⟩)
     conv=>whnf
     refine⟨_,rfl,rfl,rfl,.inl ⟨_,S.row 4 rfl,rfl,?_⟩⟩;conv=>whnf
     intro Xx qK;replace S:=S.w4 qK;conv=>whnf
     have S2:=(((S.drop 2).drop 2).drop 2).swap;dsimp only[List.eraseIdx]at S2;exact⟨_,aR rfl rfl (S.row 4 rfl) rfl rfl,Bs (aw:=4) (y:=0) (t:=zT) (a:=x1) (b:=x2) (agg:=0) (col:=0) (w:=IntKind.i64.wrap (w+w2)) (al:=[(ax.mk aw pn ⟨tk,qP,⟨t1,t2,t3,t4⟩,⟨t5,t6,t7,t8⟩⟩ cells pa pb ao agg col al),(ax.mk cd Tn ⟨RB,Hx,⟨To,Tp,Tq,Tr⟩,⟨Ts,Tt,Tu,Tv⟩⟩ bK Tw Tx cm cX jb bU)]) (by omega) (by rfl) (by intro d hd;simp at hd;rcases hd with rfl|rfl<;>(show(1:Nat)<=4000000;decide)) (by simp only[ax.uD,aJ,List.length_nil];omega) (by rw[U7];omega) (by rw[U7];exact U8) (ah.U4 (q:=(ax.mk aw pn ⟨tk,qP,⟨t1,t2,t3,t4⟩,⟨t5,t6,t7,t8⟩⟩ cells pa pb ao agg col al)) (r:=(ax.mk cd Tn ⟨RB,Hx,⟨To,Tp,Tq,Tr⟩,⟨Ts,Tt,Tu,Tv⟩⟩ bK Tw Tx cm cX jb bU)) S2)⟩
   conv=>whnf
   refine ae (fun g7=>?_) (fun g7=>?_)
   ·conv=>whnf
    rw[Gn];refine⟨_,Lj hp 2 (m:Nat) _,?_⟩;have U6:(if(2:Int)<((m:Nat):Int)then 2 else((m:Nat):Int))=((min 2 m:Nat):Int):=by split<;>omega
    rw[U6];have wH:=Lk m;have hp4:1<=2^(min 2 m):=Nat.one_le_two_pow;conv=>whnf
    refine ih (min 2 m) (by omega) (by omega) S (by omega) fun q w2 h6 Xy tV hv6 S1=>?_;replace S:=S1;clear S1;obtain⟨cd,Tn,⟨RB,Hx,⟨To,Tp,Tq,Tr⟩,⟨Ts,Tt,Tu,Tv⟩⟩,bK,Tw,Tx,cm,cX,jb,bU⟩:=q;conv=>whnf
    intro k3 a3 kS jN;replace S:=(S.alloc kS jN).swap;conv=>whnf
    refine⟨_,rfl,rfl,rfl,.inl ⟨_,S.row 1 rfl,rfl,?_⟩⟩;conv=>whnf
    intro h7 ve;replace S:=S.w1 ve;conv=>whnf
    have U7:IntKind.i64.wrap (w+w2)=w+w2:=by rw[aY];omega
    rw[U7];refine ae (fun gj=>?_) (fun gj=>?_)
    ·conv=>whnf
     refine aI (S.row 2 rfl) ?_;conv=>whnf
     refine⟨_,rfl,rfl,rfl,.inl ⟨_,S.row 3 rfl,rfl,?_⟩⟩;conv=>whnf
     intro h8 nK;replace S:=S.w3 nK;conv=>whnf
     exact⟨_,aR rfl rfl (S.row 3 rfl) rfl rfl,DY (p:=(ax.mk aw pn ⟨tk,qP,⟨t1,t2,t3,t4⟩,⟨t5,t6,t7,t8⟩⟩ cells pa pb ao agg col al)) (w:=w) (ah.frozen (ax.mk aw pn ⟨tk,qP,⟨t1,t2,t3,t4⟩,⟨t5,t6,t7,t8⟩⟩ cells pa pb ao agg col al) (ah.eh (((S.drop 1).drop 1).drop 1) (by omega))) rfl (by show(1:Nat)<=4100000;decide) ⟨_,w,rfl,by omega,QF,Tm⟩⟩
    ·have U8:w+w2<=6:=by simpa using gj
     conv=>whnf
     refine aI (S.row 2 rfl) ?_;conv=>whnf
     refine aI (S.row 1 rfl) ?_;conv=>whnf
     intro k4 a4 tN pM;replace S:=(S.alloc tN pM).swap;conv=>whnf
     refine di hp _ S (by omega) fun x1 h8 Bc S1=>?_;replace S:=S1;clear S1;conv=>whnf
     refine⟨?_,?_⟩
     ·repeat
       ((conv=>whnf);first|trivial|refine⟨by first|((conv=>whnf);exact⟨_,rfl,S.row 1 rfl⟩)|((conv=>whnf);exact bO rfl (S.row 2 rfl) rfl rfl)|((conv=>whnf);exact bO rfl (S.row 3 rfl) rfl rfl),?_⟩)
     conv=>whnf
     refine di hp _ S (by omega) fun x2 h9 xm S1=>?_;replace S:=S1;clear S1;conv=>whnf
     refine⟨?_,?_⟩
     ·repeat
       ((conv=>whnf);first|trivial|refine⟨by first|((conv=>whnf);exact⟨_,rfl,S.row 1 rfl⟩)|((conv=>whnf);exact bO rfl (S.row 2 rfl) rfl rfl)|((conv=>whnf);exact bO rfl (S.row 3 rfl) rfl rfl),?_⟩)
     conv=>whnf
     refine⟨_,rfl,rfl,rfl,.inl ⟨_,S.row 4 rfl,rfl,?_⟩⟩;conv=>whnf
     intro Xx qK;replace S:=S.w4 qK;conv=>whnf
     have S2:=(((S.drop 2).drop 2).drop 2).swap;dsimp only[List.eraseIdx]at S2;exact⟨_,aR rfl rfl (S.row 4 rfl) rfl rfl,Bs (aw:=4) (y:=0) (t:=zT) (a:=x1) (b:=x2) (agg:=0) (col:=0) (w:=IntKind.i64.wrap (w+w2)) (al:=[(ax.mk aw pn ⟨tk,qP,⟨t1,t2,t3,t4⟩,⟨t5,t6,t7,t8⟩⟩ cells pa pb ao agg col al),(ax.mk cd Tn ⟨RB,Hx,⟨To,Tp,Tq,Tr⟩,⟨Ts,Tt,Tu,Tv⟩⟩ bK Tw Tx cm cX jb bU)]) (by omega) (by rfl) (by intro d hd;simp at hd;rcases hd with rfl|rfl<;>(show(1:Nat)<=4000000;decide)) (by simp only[ax.uD,aJ,List.length_nil];omega) (by rw[U7];omega) (by rw[U7];exact U8) (ah.U4 (q:=(ax.mk aw pn ⟨tk,qP,⟨t1,t2,t3,t4⟩,⟨t5,t6,t7,t8⟩⟩ cells pa pb ao agg col al)) (r:=(ax.mk cd Tn ⟨RB,Hx,⟨To,Tp,Tq,Tr⟩,⟨Ts,Tt,Tu,Tv⟩⟩ bK Tw Tx cm cX jb bU)) S2)⟩
   conv=>whnf
   refine ae (fun g8=>?_) (fun g8=>?_)
   ·conv=>whnf
    rw[Gn];refine ih m (by omega) (by omega) S (by omega) fun q w2 h6 Xy tV hv6 S1=>?_;replace S:=S1;clear S1;obtain⟨cd,Tn,⟨RB,Hx,⟨To,Tp,Tq,Tr⟩,⟨Ts,Tt,Tu,Tv⟩⟩,bK,Tw,Tx,cm,cX,jb,bU⟩:=q;conv=>whnf
    intro k3 a3 kS jN;replace S:=(S.alloc kS jN).swap;conv=>whnf
    refine⟨_,rfl,rfl,rfl,.inl ⟨_,S.row 1 rfl,rfl,?_⟩⟩;conv=>whnf
    intro h7 ve;replace S:=S.w1 ve;conv=>whnf
    refine ae (fun gj=>?_) (fun gj=>?_)
    ·have Xz:=Ab hp (ax.mk aw pn ⟨tk,qP,⟨t1,t2,t3,t4⟩,⟨t5,t6,t7,t8⟩⟩ cells pa pb ao agg col al) (by unfold ax.small;omega);conv=>whnf
     refine aI (S.row 2 rfl) ?_;conv=>whnf
     refine aI (S.row 2 rfl) ?_;conv=>whnf
     refine ek S Xz rfl rfl fun v9 h8 F9 o9 S1=>?_;clear S Xz;have S:=S1;clear S1;obtain⟨C9,K9,D9,Fc,Fk,Fd,rfl,oC,oK,oD,rfl⟩:=kA.1 (show jH h8 (ax.mk aw pn ⟨tk,qP,⟨t1,t2,t3,t4⟩,⟨t5,t6,t7,t8⟩⟩ cells pa pb ao agg col al) v9 F9 from by simpa only[bP]using o9);clear o9;conv=>whnf
     intro k4 a4 tN pM;replace S:=S.alloc tN pM;conv=>whnf
     refine⟨_,rfl,rfl,rfl,.inl ⟨_,S.row 5 rfl,rfl,?_⟩⟩;conv=>whnf
     intro Xx qK;replace S:=S.w5 qK;conv=>whnf
     have S2:=((S.drop 3).drop 3).drop 3;dsimp only[List.eraseIdx]at S2;exact⟨_,aR rfl rfl (S.row 5 rfl) rfl rfl,Bs (aw:=5) (y:=0) (t:=zT) (a:=0) (b:=0) (agg:=0) (col:=0) (w:=w) (al:=[(ax.mk aw pn ⟨tk,qP,⟨t1,t2,t3,t4⟩,⟨t5,t6,t7,t8⟩⟩ cells pa pb ao agg col al),(ax.mk aw pn ⟨tk,qP,⟨t1,t2,t3,t4⟩,⟨t5,t6,t7,t8⟩⟩ cells pa pb ao agg col al)]) (by omega) (by rfl) (by intro d hd;simp at hd;rcases hd with rfl|rfl;(show(1:Nat)<=4000000;decide);(show 2*_+6<=4000000;omega)) (by simp only[ax.uD,aJ,List.length_nil];omega) (by omega) Tm (ah.Xw (q:=(ax.mk aw pn ⟨tk,qP,⟨t1,t2,t3,t4⟩,⟨t5,t6,t7,t8⟩⟩ cells pa pb ao agg col al)) (r:=(ax.mk aw pn ⟨tk,qP,⟨t1,t2,t3,t4⟩,⟨t5,t6,t7,t8⟩⟩ cells pa pb ao agg col al)) S2)⟩
    ·conv=>whnf
     refine aI (S.row 2 rfl) ?_;conv=>whnf
     refine aI (S.row 1 rfl) ?_;conv=>whnf
     intro k4 a4 tN pM;replace S:=(S.alloc tN pM).swap;conv=>whnf
     refine⟨_,rfl,rfl,rfl,.inl ⟨_,S.row 4 rfl,rfl,?_⟩⟩;conv=>whnf
     intro Xx qK;replace S:=S.w4 qK;conv=>whnf
     have S2:=(((S.drop 2).drop 2).drop 2).swap;dsimp only[List.eraseIdx]at S2;exact⟨_,aR rfl rfl (S.row 4 rfl) rfl rfl,Bs (aw:=5) (y:=0) (t:=zT) (a:=0) (b:=0) (agg:=0) (col:=0) (w:=w) (al:=[(ax.mk aw pn ⟨tk,qP,⟨t1,t2,t3,t4⟩,⟨t5,t6,t7,t8⟩⟩ cells pa pb ao agg col al),(ax.mk cd Tn ⟨RB,Hx,⟨To,Tp,Tq,Tr⟩,⟨Ts,Tt,Tu,Tv⟩⟩ bK Tw Tx cm cX jb bU)]) (by omega) (by rfl) (by intro d hd;simp at hd;rcases hd with rfl|rfl<;>(show(1:Nat)<=4000000;decide)) (by simp only[ax.uD,aJ,List.length_nil];omega) (by omega) Tm (ah.U4 (q:=(ax.mk aw pn ⟨tk,qP,⟨t1,t2,t3,t4⟩,⟨t5,t6,t7,t8⟩⟩ cells pa pb ao agg col al)) (r:=(ax.mk cd Tn ⟨RB,Hx,⟨To,Tp,Tq,Tr⟩,⟨Ts,Tt,Tu,Tv⟩⟩ bK Tw Tx cm cX jb bU)) S2)⟩
   conv=>whnf
   refine ae (fun g9=>?_) (fun g9=>?_)
   ·conv=>whnf
    refine aI (S.row 1 rfl) ?_;conv=>whnf
    intro k3 a3 kS jN;replace S:=S.alloc kS jN;conv=>whnf
    refine⟨_,rfl,rfl,rfl,.inl ⟨_,S.row 3 rfl,rfl,?_⟩⟩;conv=>whnf
    intro h6 fO;replace S:=S.w3 fO;conv=>whnf
    have S2:=(S.drop 2).drop 2;dsimp only[List.eraseIdx]at S2;exact⟨_,aR rfl rfl (S.row 3 rfl) rfl rfl,Bs (aw:=6) (y:=0) (t:=zT) (a:=0) (b:=0) (agg:=0) (col:=0) (w:=w) (al:=[(ax.mk aw pn ⟨tk,qP,⟨t1,t2,t3,t4⟩,⟨t5,t6,t7,t8⟩⟩ cells pa pb ao agg col al)]) (by omega) (by rfl) (by intro d hd;simp at hd;subst hd;show(1:Nat)<=4000000;decide) (by simp only[ax.uD,aJ,List.length_nil];omega) QF Tm (ah.M7 (q:=(ax.mk aw pn ⟨tk,qP,⟨t1,t2,t3,t4⟩,⟨t5,t6,t7,t8⟩⟩ cells pa pb ao agg col al)) S2)⟩
   conv=>whnf
   refine aI (S.row 1 rfl) ?_;conv=>whnf
   intro k3 a3 kS jN;replace S:=(S.alloc kS jN).swap;conv=>whnf
   intro k4 a4 tN pM;replace S:=(S.alloc tN pM).swap;conv=>whnf
   refine di hp _ S (by omega) fun x1 h6 Bc S1=>?_;replace S:=S1;clear S1;conv=>whnf
   refine⟨?_,?_⟩
   ·repeat
     ((conv=>whnf);first|trivial|refine⟨by first|((conv=>whnf);exact⟨_,rfl,S.row 1 rfl⟩)|((conv=>whnf);exact⟨_,rfl,S.row 2 rfl⟩)|((conv=>whnf);exact bO rfl (S.row 3 rfl) rfl rfl),?_⟩)
   conv=>whnf
   refine di hp _ S (by omega) fun x2 h7 xm S1=>?_;replace S:=S1;clear S1;conv=>whnf
   refine⟨?_,?_⟩
   ·repeat
     ((conv=>whnf);first|trivial|refine⟨by first|((conv=>whnf);exact⟨_,rfl,S.row 1 rfl⟩)|((conv=>whnf);exact⟨_,rfl,S.row 2 rfl⟩)|((conv=>whnf);exact bO rfl (S.row 3 rfl) rfl rfl),?_⟩)
   conv=>whnf
   refine⟨_,rfl,rfl,rfl,.inl ⟨_,S.row 1 rfl,rfl,?_⟩⟩;conv=>whnf
   intro h8 nK;replace S:=S.w1 nK;conv=>whnf
   refine di hp _ S (by omega) fun x3 h9 hx3 S1=>?_;replace S:=S1;clear S1;conv=>whnf
   refine ae (fun gk=>?_) (fun gk=>?_)
   ·conv=>whnf
    refine aI (S.row 1 rfl) ?_;conv=>whnf
    refine di hp _ S (by omega) fun x4 Xx hx4 S1=>?_;replace S:=S1;clear S1;conv=>whnf
    refine⟨?_,?_⟩
    ·repeat
      ((conv=>whnf);first|trivial|refine⟨by first|((conv=>whnf);exact bO rfl (S.row 1 rfl) rfl rfl),?_⟩)
    conv=>whnf
    replace S:=ah.j7 1 S;replace S:=(ah.vp (d:=.i x4) (fun _=>nk x4) S).swap;intro nM nN de dg;replace S:=S.alloc de dg;conv=>whnf
    refine⟨trivial,?_⟩;conv=>whnf
    refine⟨[_],bG (S.row 0 rfl),cQ rfl rfl,?_⟩;replace S:=S.drop 0;dsimp only[List.eraseIdx]at S;refine jM (sz:=1) (d:=.i x4) S (by simp[br]) fun k5 h11 F5 S1=>?_;replace S:=S1;clear S1;conv=>whnf
    refine⟨_,rfl,rfl,rfl,.inl ⟨_,S.row 2 rfl,rfl,?_⟩⟩;conv=>whnf
    intro h12 U9;replace S:=S.w2 U9;conv=>whnf
    refine aI (S.row 2 rfl) ?_;conv=>whnf
    refine aI (S.row 2 rfl) ?_;conv=>whnf
    refine⟨_,rfl,rfl,rfl,.inl ⟨_,S.row 5 rfl,rfl,?_⟩⟩;conv=>whnf
    intro h13 JR;replace S:=S.w5 JR;conv=>whnf
    refine⟨?_,?_⟩
    ·repeat
      ((conv=>whnf);first|trivial|refine⟨by first|((conv=>whnf);exact bO rfl (S.row 2 rfl) rfl rfl),?_⟩)
    conv=>whnf
    have S2:=((S.drop 2).drop 3).drop 3;dsimp only[List.eraseIdx]at S2;replace S2:=ah.M7 (q:=(ax.mk aw pn ⟨tk,qP,⟨t1,t2,t3,t4⟩,⟨t5,t6,t7,t8⟩⟩ cells pa pb ao agg col al)) (S2.front 2 rfl);replace S2:=ah.Hv 4 (ah.pH (S2.front 1 rfl));exact⟨_,aR rfl rfl (S.row 5 rfl) rfl rfl,fin (aw:=7) (y:=0) (t:=zT) (cells:=[]) (a:=0) (b:=0) (ao:=[x4]) (agg:=x1) (col:=x2) (w:=2) (al:=[(ax.mk aw pn ⟨tk,qP,⟨t1,t2,t3,t4⟩,⟨t5,t6,t7,t8⟩⟩ cells pa pb ao agg col al)]) (Q:=[]) (by omega) (by rfl) (by intro d hd;simp at hd;subst hd;show(1:Nat)<=4000000;decide) (by simp only[ax.uD,aJ,List.length_nil];omega) (by decide) (by decide) S2⟩
   ·conv=>whnf
    refine aI (S.row 1 rfl) ?_;conv=>whnf
    refine aI (S.row 1 rfl) ?_;conv=>whnf
    refine⟨_,rfl,rfl,rfl,.inl ⟨_,S.row 4 rfl,rfl,?_⟩⟩;conv=>whnf
    intro h13 JR;replace S:=S.w4 JR;conv=>whnf
    refine⟨?_,?_⟩
    ·repeat
      ((conv=>whnf);first|trivial|refine⟨by first|((conv=>whnf);exact bO rfl (S.row 1 rfl) rfl rfl),?_⟩)
    conv=>whnf
    have S2:=(((S.drop 1).drop 2).drop 2).swap;dsimp only[List.eraseIdx]at S2;exact⟨_,aR rfl rfl (S.row 4 rfl) rfl rfl,Bs (aw:=7) (y:=0) (t:=zT) (a:=0) (b:=0) (agg:=x1) (col:=x2) (w:=1) (al:=[(ax.mk aw pn ⟨tk,qP,⟨t1,t2,t3,t4⟩,⟨t5,t6,t7,t8⟩⟩ cells pa pb ao agg col al)]) (by omega) (by rfl) (by intro d hd;simp at hd;subst hd;show(1:Nat)<=4000000;decide) (by simp only[ax.uD,aJ,List.length_nil];omega) (by decide) (by decide) (ah.M7 (q:=(ax.mk aw pn ⟨tk,qP,⟨t1,t2,t3,t4⟩,⟨t5,t6,t7,t8⟩⟩ cells pa pb ao agg col al)) S2)⟩
theorem Qk(hp:bV pr){h:aC}{L:List Chunk}{k n:Nat}(S:ah h (.rd k n::L))(hn:n<=90000000000){K:dz->Prop}
  (hK: ∀(p:ax) h',p.sz<=640->ah h' (.rd k (n+1000)::L)->K (.ret p.enc h')):
  ∃r,bN (du pr) (call (du pr)) 82 [.ptr k 0 0] h=some r/\K r:=by
   refine JQ (m:=n+1000) (P:=fun x=>∃p:ax,x=p.enc/\p.sz<=640) rfl (hp.out _ rfl) S (fun L S=>?_) fun x h' hx S1=>by
    obtain⟨p,rfl,h1⟩:=hx;exact hK p h' h1 S1
   clear hK K
   have fin: ∀{h2:aC}{n2:Nat}{d:ba}{v:af}{F:List Nat}{p:ax},n2<=n+1000->d.enc=p.enc->d.dep<=4100000->p.sz<=640->ah h2 (.cU d v F:: .rd k n2::L)->
     ∃v' h1 x CR,dz.ret v h2= .ret v' h1/\ah h1 (CR:: .rd k (n+1000)::L)/\(∀h',CR.P h'->Am.snap h' v'=some x)/\ ∃p:ax,x=p.enc/\p.sz<=640:=by
      intro h2 n2 d v F p U5 he hd je S2;exact⟨_,_,_,_,rfl,(ah.eh S2.swap U5).swap,fun h' ho=>bP.snap (show bP h' d v F from ho) (by omega),p,he,je⟩
   conv=>whnf
   intro k1 a1 dw dC;replace S:=(S.alloc dw dC).swap;conv=>whnf
   refine di hp _ S (by omega) fun x h2 hx S1=>?_;replace S:=S1;clear S1;obtain⟨d,rfl⟩: ∃d:Nat,x=(d:Int):=⟨x.toNat,by unfold QJ at hx;omega⟩;have hd:d<=3:=by unfold QJ at hx;omega
   have Gn:IntKind.i64.wrap (1+(d:Int))=((d+1:Nat):Int):=by rw[aY];omega
   have wH:2^(d+1)<=2^4:=Nat.pow_le_pow_right (by decide) (by omega);rw[show(2^4:Nat)=16 by decide]at wH;conv=>whnf
   rw[Gn];refine Hw hp (d+1) (by omega) S (by omega) fun p w h3 je QF Tm S1=>?_;clear S;have S:=ah.eh (m:=n+641) S1 (by omega);clear S1;have je:p.sz<=640:=by omega
   have wS:=ox hp p [2,2] (by unfold ax.small;omega);generalize dq p [2,2]=pw at wS;obtain⟨aw,pn,⟨tk,qP,⟨t1,t2,t3,t4⟩,⟨t5,t6,t7,t8⟩⟩,cells,pa,pb,ao,agg,col,al⟩:=p;conv=>whnf
   intro k2 a2 jf iB;replace S:=(S.alloc jf iB).swap;conv=>whnf
   refine⟨_,rfl,rfl,rfl,.inl ⟨_,S.row 1 rfl,rfl,?_⟩⟩;conv=>whnf
   intro h4 vA;replace S:=S.w1 vA;conv=>whnf
   refine aI (S.row 1 rfl) ?_;conv=>whnf
   have Va:=wS;intro kk ak PC XC;replace S:=S.alloc PC XC;conv=>whnf
   refine⟨_,wS.here (bm rfl (oR (pk (es:=[i64 2,i64 2]) (S.row 0 rfl) (fun x hx=>by simp at hx;subst hx;rfl)))) rfl rfl,?_⟩;clear wS;replace S:=S.drop 0;dsimp only[List.eraseIdx]at S;conv=>whnf
   refine ae (fun gy=>?_) (fun gy=>?_)
   ·clear Va je;conv=>whnf
    refine Hw hp 2 (by omega) S (by omega) fun p w2 h5 je tV hv6 S1=>?_;clear S;have S:=ah.eh (m:=n+900) S1 (by omega);clear S1;have je:p.sz<=640:=by omega
    have wS:=ox hp p [2,2] (by unfold ax.small;omega);generalize dq p [2,2]=pw2 at wS;obtain⟨aw,pn,⟨tk,qP,⟨t1,t2,t3,t4⟩,⟨t5,t6,t7,t8⟩⟩,cells,pa,pb,ao,agg,col,al⟩:=p;conv=>whnf
    refine⟨_,rfl,rfl,rfl,.inl ⟨_,S.row 1 rfl,rfl,?_⟩⟩;conv=>whnf
    intro h6 fO;replace S:=S.w1 fO;conv=>whnf
    refine aI (S.row 1 rfl) ?_;conv=>whnf
    intro kk ak PC XC;replace S:=S.alloc PC XC;conv=>whnf
    refine⟨_,wS.here (bm rfl (oR (pk (es:=[i64 2,i64 2]) (S.row 0 rfl) (fun x hx=>by simp at hx;subst hx;rfl)))) rfl rfl,?_⟩;clear wS;replace S:=S.drop 0;dsimp only[List.eraseIdx]at S;conv=>whnf
    refine ae (fun gz=>?_) (fun gz=>?_)
    ·conv=>whnf
     refine⟨_,rfl,rfl,rfl,.inl ⟨_,S.row 2 rfl,rfl,?_⟩⟩;conv=>whnf
     intro h9 lX;replace S:=S.w2 lX;conv=>whnf
     have S2:=ah.Hv 4 (ah.Hv 1 (ah.vp (d:=.s 19 []) (v:=.nil) (fun _=>jO 19) ((S.drop 1).drop 1)));dsimp only[List.eraseIdx]at S2;exact⟨_,dI rfl rfl (S.row 2 rfl) rfl,fin (p:=.mk 1 0 zT [] 0 0 [] 0 0 []) (by omega) (wU rfl) (by have:=wV (aw:=1) (n:=0) (t:=zT) (cells:=[]) (a:=0) (b:=0) (ao:=[]) (agg:=0) (col:=0) (yF:=[]) (by simp);omega) (by simp[ax.sz,ax.uD]) (wW (cells:=[]) (ao:=[]) S2)⟩
    ·conv=>whnf
     refine aI (S.row 1 rfl) ?_;conv=>whnf
     refine⟨_,rfl,rfl,rfl,.inl ⟨_,S.row 2 rfl,rfl,?_⟩⟩;conv=>whnf
     intro h9 lX;replace S:=S.w2 lX;conv=>whnf
     exact⟨_,dI rfl rfl (S.row 2 rfl) rfl,fin (p:=(ax.mk aw pn ⟨tk,qP,⟨t1,t2,t3,t4⟩,⟨t5,t6,t7,t8⟩⟩ cells pa pb ao agg col al)) (by omega) rfl (by show(1:Nat)<=4100000;decide) je (ah.frozen (ax.mk aw pn ⟨tk,qP,⟨t1,t2,t3,t4⟩,⟨t5,t6,t7,t8⟩⟩ cells pa pb ao agg col al) ((S.drop 1).drop 1))⟩
   ·have wS:=Va;clear Va;conv=>whnf
    refine aI (S.row 1 rfl) ?_;conv=>whnf
    intro kk ak PC XC;replace S:=S.alloc PC XC;conv=>whnf
    refine⟨_,wS.here (bm rfl (oR (pk (es:=[i64 2,i64 2]) (S.row 0 rfl) (fun x hx=>by simp at hx;subst hx;rfl)))) rfl rfl,?_⟩;clear wS;replace S:=S.drop 0;dsimp only[List.eraseIdx]at S;conv=>whnf
    refine ae (fun gz=>?_) (fun gz=>?_)
    ·conv=>whnf
     refine⟨_,rfl,rfl,rfl,.inl ⟨_,S.row 2 rfl,rfl,?_⟩⟩;conv=>whnf
     intro h9 lX;replace S:=S.w2 lX;conv=>whnf
     have S2:=ah.Hv 4 (ah.Hv 1 (ah.vp (d:=.s 19 []) (v:=.nil) (fun _=>jO 19) ((S.drop 1).drop 1)));dsimp only[List.eraseIdx]at S2;exact⟨_,dI rfl rfl (S.row 2 rfl) rfl,fin (p:=.mk 1 0 zT [] 0 0 [] 0 0 []) (by omega) (wU rfl) (by have:=wV (aw:=1) (n:=0) (t:=zT) (cells:=[]) (a:=0) (b:=0) (ao:=[]) (agg:=0) (col:=0) (yF:=[]) (by simp);omega) (by simp[ax.sz,ax.uD]) (wW (cells:=[]) (ao:=[]) S2)⟩
    ·conv=>whnf
     refine aI (S.row 1 rfl) ?_;conv=>whnf
     refine⟨_,rfl,rfl,rfl,.inl ⟨_,S.row 2 rfl,rfl,?_⟩⟩;conv=>whnf
     intro h9 lX;replace S:=S.w2 lX;conv=>whnf
     exact⟨_,dI rfl rfl (S.row 2 rfl) rfl,fin (p:=(ax.mk aw pn ⟨tk,qP,⟨t1,t2,t3,t4⟩,⟨t5,t6,t7,t8⟩⟩ cells pa pb ao agg col al)) (by omega) rfl (by show(1:Nat)<=4100000;decide) je (ah.frozen (ax.mk aw pn ⟨tk,qP,⟨t1,t2,t3,t4⟩,⟨t5,t6,t7,t8⟩⟩ cells pa pb ao agg col al) ((S.drop 1).drop 1))⟩
end Go.Proofs.YtfepbikckfehlaaGreat

/- Draws: plans that are ok. -/
import Derived.Test.YtfepbikckfehlaaGreatGH41
import Derived.Test.YtfepbikckfehlaaGreatGH35
set_option linter.unusedVariables false
set_option linter.unusedSimpArgs false
set_option maxHeartbeats 4000000
namespace Go.Proofs.YtfepbikckfehlaaGreat
open Go Go.Am
variable{pr:bW}(hp:cF pr)
set_option maxRecDepth 100000
theorem LF{f:FuncId}{args:List af}{h:aG}{L:List Chunk}{k n m:Nat}{P:af->Prop}{K:ef->Prop}(hM:gI f=Am.Mode.R)(UQ:pr f=none)(S:aj h (.rd k n::L))
  (hw: ∀L,aj h (.rd k n::L)->x9 (dZ pr) f args h (fun r=>∃v h1 x CR,r= .ret v h1/\aj h1 (CR:: .rd k m::L)/\(∀h',CR.P h'->Am.snap h' v=some x)/\P x))
  (hK: ∀x h',P x->aj h' (.rd k m::L)->K (.ret x h')): ∃r,cj (dZ pr) (call (dZ pr)) f args h=some r/\K r:=by
   obtain⟨x,C1,h2,hc,S2,_,hx,hC⟩:=U4 (Q:=fun x C=>P x/\C= .rd k m) hM S fun L S=>by
    obtain⟨r,hr,v,h1,x,CR,rfl,S1,hs,hx⟩:=dJ UQ (hw L S);exact⟨v,h1,x,CR,.rd k m,hr,S1,hs,rfl,hx,rfl⟩
   subst hC;exact⟨_,hc,hK _ _ hx S2⟩
def Ji(au n:Int)(t:Test)(cells:List Cell)(a b:Int)(aq:List Int)(agg col:Int)(Aa:List bg):bg:=
 .g [.i au,.i n,.v t.enc,.a 4 (cells.map fun c=>.v c.enc),.i a,.i b,.a 1 (aq.map bg.i),.i agg,.i col,.s 19 Aa]
theorem yw{au n:Int}{t:Test}{cells:List Cell}{a b:Int}{aq:List Int}{agg col:Int}{Aa:List bg}{ao:List aA}(h:Aa.map bg.enc=ao.map aA.enc):(Ji au n t cells a b aq agg col Aa).enc=(aA.mk au n t cells a b aq agg col ao).enc:=by
 have h1:bg.dv (cells.map fun c=>.v c.enc)=cells.map Cell.enc:=jC (fun c=>rfl) _;simp only[Ji,bg.enc,bg.uo,bg.xX,h1,bg.jW Aa,h,aA.enc,EG];rfl
theorem yx{au n:Int}{t:Test}{cells:List Cell}{a b:Int}{aq:List Int}{agg col:Int}{Aa:List bg}(h: ∀d∈Aa,d.dep<=4000000):(Ji au n t cells a b aq agg col Aa).dep<=4000003:=by
 have h1:bg.dO (cells.map fun c=>bg.v c.enc)<=2:=nt fun d hd=>by obtain⟨c,_,rfl⟩:=aaO.1 hd;exact aah _
 have h2:=yg aq;have h3:=nt h;simp only[Ji,bg.dep,bg.dO];omega
theorem yy{h:aG}{L:List Chunk}{au n:Int}{t:Test}{cells:List Cell}{a b:Int}{aq:List Int}{agg col:Int}{Aa:List bg}{C K D:af}{F1 F2 F3:List Nat}
  (S:aj h (.dL (.a 4 (cells.map fun c=>.v c.enc)) C F1:: .dL (.a 1 (aq.map bg.i)) K F2:: .dL (.s 19 Aa) D F3::L)):aj h (.dL (Ji au n t cells a b aq agg col Aa) (nb au n t C a b K agg col D) (F1++(F2++(F3++[])))::L):=by
   refine aj.U5 [.dL (.a 4 (cells.map fun c:Cell=>.v c.enc)) C F1,.dL (.a 1 (aq.map bg.i)) K F2,.dL (.s 19 Aa) D F3] S ?_ (by simp[Chunk.dL]);have hv:cq h (.v t.enc) t.enc []:=by unfold cq;exact⟨rfl,rfl,rfl⟩
   exact iF.2 ⟨_,rfl,fh (fh (iS (F1:=[]) hv (iM (S.get 0 rfl) (fh (fh (iM (S.get 1 rfl) (fh (fh (jD (S.get 2 rfl) iL)))))))))⟩
theorem FW{h:aG}{L:List Chunk}{k m:Nat}{d:bg}{v:af}{F:List Nat}{p:aA}{w:Int}{P:af->Prop}(S:aj h (.dL d v F:: .rd k m::L))(he:d.enc=p.enc)(hd:d.dep<=4100000)(hP:P (.eT [p.enc,i64 w])):
  ∃v' h1 x CR,ef.ret (.eT [v,i64 w]) h= .ret v' h1/\aj h1 (CR:: .rd k m::L)/\(∀h',CR.P h'->Am.snap h' v'=some x)/\P x:=
   ⟨_,_,_,_,rfl,S,fun h' ho=>cZ.ti (iH (show cq h' d v F from ho) (uq w)) (by simp only[bg.dO,bg.dep];omega),by
    show P (.eT [d.enc,i64 w]);rw[he];exact hP⟩
theorem pD{h:aG}(p:aA):cq h (.v p.enc) p.enc []:=by
 obtain⟨au,n,t,cells,a,b,aq,agg,col,ao⟩:=p;unfold cq;exact⟨rfl,rfl,rfl⟩
theorem M7(hp:cF pr)(a b:Int):dK pr 138 [i64 a,i64 b] (i64 (if a<b then a else b)):=by
 refine cX hp rfl rfl ?_
 iterate 4
  all_goals(try(conv=>whnf))
  all_goals(first|(refine ae (fun hb=>?_) (fun hb=>?_))|skip)
 all_goals exact cu (by simp_all;try omega)
theorem M8(m:Nat):2^(min 2 m)<=2^m:=Nat.pow_le_pow_right (by decide) (Nat.min_le_right _ _)
theorem aj.frozen{h:aG}{L:List Chunk}(q:aA)(S:aj h L):aj h (.dL (.v q.enc) q.enc []::L):=aj.xg (fun _=>pD q) S
theorem aj.Jj{h:aG}{L:List Chunk}(sz:Nat)(S:aj h L):aj h (.dL (.a sz []) .nil []::L):=aj.xg (fun _=>by unfold cq;exact .inl ⟨rfl,rfl,rfl⟩) S
theorem aj.O4{h:aG}{L:List Chunk}{q:aA}{id:Nat}(S:aj h (.row id (.arr 19 [q.enc])::L)):aj h (.dL (.s 19 [.v q.enc]) (.own id 0 1) [id]::L):=
 aj.close (n:=1) (S.more (c:=.ed [.v q.enc] [q.enc] []) (aa2 _) (oZ (pD q)) (by simp[Chunk.ed]) (by simp[Chunk.ed])).swap rfl
theorem aj.W0{h:aG}{L:List Chunk}{q r:aA}{id:Nat}(S:aj h (.row id (.arr 19 [q.enc,r.enc])::L)):aj h (.dL (.s 19 [.v q.enc,.v r.enc]) (.own id 0 2) [id]::L):=
 aj.close (n:=2) (S.more (c:=.ed [.v q.enc,.v r.enc] [q.enc,r.enc] []) (aa2 _) (lB (ps:=[_]) (F:=[]) (G:=[]) (oZ (pD q)) (oZ (pD r))) (by simp[Chunk.ed]) (by simp[Chunk.ed])).swap rfl
theorem aj.Zq{h:aG}{L:List Chunk}{q r:aA}{rv:af}{F:List Nat}{id:Nat}(S:aj h (.row id (.arr 19 [q.enc,rv]):: .dL (.p r) rv F::L)):aj h (.dL (.s 19 [.v q.enc,.p r]) (.own id 0 2) (id::F)::L):=
 aj.close (n:=2) (S.swap.is (c':=.ed [.v q.enc,.p r] [q.enc,rv] F) (lB (ps:=[_]) (F:=[]) (G:=F) (oZ (pD q)) (oZ (S.get 1 rfl))) rfl).swap rfl
theorem Jk(hp:cF pr): ∀(d:Nat),d<=10-> ∀{h:aG}{L:List Chunk}{k n:Nat}(S:aj h (.rd k n::L))(hn:n+40*2^d<=100000000000){K:ef->Prop}
  (hK: ∀(p:aA)(w:Int) h',p.sz+20<=40*2^d->0<=w->w<=6->aj h' (.rd k (n+(40*2^d-20))::L)->K (.ret (.eT [p.enc,i64 w]) h')),
  ∃r,cj (dZ pr) (call (dZ pr)) 115 [.ptr k 0 0,i64 (d:Nat)] h=some r/\K r:=by
   intro d
   induction d using Nat.strongRecOn with
   |ind d ih=>
   intro hd h L k n S hn K hK
   refine LF (m:=n+(40*2^d-20)) (P:=fun x=>∃(p:aA)(w:Int),x= .eT [p.enc,i64 w]/\p.sz+20<=40*2^d/\0<=w/\w<=6) rfl (hp.out _ rfl) S (fun L S=>?_) fun x h' hx S1=>by
    obtain⟨p,w,rfl,h1,h2,h3⟩:=hx;exact hK p w h' h1 h2 h3 S1
   clear hK K;have GB:1<=2^d:=Nat.one_le_two_pow;have Jv:2^d<=2^10:=Nat.pow_le_pow_right (by decide) hd;rw[show(2^10:Nat)=1024 by decide]at Jv
   -- the ends
   have fin: ∀{h2:aG}{n2:Nat}{au y:Int}{t:Test}{cells:List Cell}{a b:Int}{aq:List Int}{agg col:Int}{Aa:List bg}{ao:List aA}{C K D:af}{F1 F2 F3:List Nat}{w:Int}{Q:List Chunk},n2<=n+(40*2^d-20)->Aa.map bg.enc=ao.map aA.enc->(∀d∈Aa,d.dep<=4000000)->cells.length+aq.length+ao.length+aA.wu ao+20<=40*2^d->0<=w->w<=6->
     aj h2 (.dL (.a 4 (cells.map fun c:Cell=>.v c.enc)) C F1:: .dL (.a 1 (aq.map bg.i)) K F2:: .dL (.s 19 Aa) D F3:: .rd k n2::L)->
     ∃v' h1 x CR,ef.ret (.eT [nb au y t C a b K agg col D,i64 w]) h2= .ret v' h1/\aj h1 (CR:: .rd k (n+(40*2^d-20))::L)/\(∀h',CR.P h'->Am.snap h' v'=some x)/\ ∃(p:aA)(w:Int),x= .eT [p.enc,i64 w]/\p.sz+20<=40*2^d/\0<=w/\w<=6:=by
      intro h2 n2 au y t cells a b aq agg col Aa ao C K D F1 F2 F3 w Q W1 he NC jP h0 h6 S2;replace S2:=S2.q3;replace S2:=(aj.fm S2 W1).front 3 rfl;dsimp only[List.eraseIdx]at S2;replace S2:=S2.q3;replace S2:=S2.q3;exact FW (p:=.mk au y t cells a b aq agg col ao) (yy S2) (yw he) (by have:=yx (au:=au) (n:=y) (t:=t) (cells:=cells) (a:=a) (b:=b) (aq:=aq) (agg:=agg) (col:=col) NC;omega) ⟨_,w,rfl,by simpa only[aA.sz]using jP,h0,h6⟩
   have CV: ∀{h2:aG}{n2:Nat}{au y:Int}{t:Test}{a b:Int}{agg col:Int}{Aa:List bg}{ao:List aA}{D:af}{F3:List Nat}{w:Int},n2<=n+(40*2^d-20)->Aa.map bg.enc=ao.map aA.enc->(∀d∈Aa,d.dep<=4000000)->ao.length+aA.wu ao+20<=40*2^d->0<=w->w<=6->
     aj h2 (.dL (.s 19 Aa) D F3:: .rd k n2::L)->
     ∃v' h1 x CR,ef.ret (.eT [nb au y t .nil a b .nil agg col D,i64 w]) h2= .ret v' h1/\aj h1 (CR:: .rd k (n+(40*2^d-20))::L)/\(∀h',CR.P h'->Am.snap h' v'=some x)/\ ∃(p:aA)(w:Int),x= .eT [p.enc,i64 w]/\p.sz+20<=40*2^d/\0<=w/\w<=6:=by
      intro h2 n2 au y t a b agg col Aa ao D F3 w W1 he NC jP h0 h6 S2;exact fin (cells:=[]) (aq:=[]) (Q:=[]) W1 he NC (by simp only[abj];omega) h0 h6 (aj.Jj 4 (aj.Jj 1 S2))
   conv=>whnf
   intro k1 a1 eg er;replace S:=(S.alloc eg er).swap;conv=>whnf
   refine ae (fun g1=>?_) (fun g1=>?_)
   ·conv=>whnf
    refine dV hp _ S (by omega) fun y h2 hy S1=>?_;replace S:=S1;clear S1;conv=>whnf
    refine⟨_,rfl,rfl,rfl,.inl ⟨_,S.row 1 rfl,rfl,?_⟩⟩;conv=>whnf
    intro h3 R9;replace S:=S.w1 R9;conv=>whnf
    exact⟨_,aS rfl rfl (S.row 1 rfl) rfl rfl,CV (au:=1) (y:=y) (t:=zT) (a:=0) (b:=0) (agg:=0) (col:=0) (w:=2) (ao:=[]) (by omega) rfl (by simp) (by simp[aA.wu];omega) (by decide) (by decide) (aj.xg (d:=.s 19 []) (v:=.nil) (fun _=>rI 19) (S.drop 1))⟩
   have ZK:2<=d:=by simp at g1;omega
   obtain⟨m,rfl⟩: ∃m,d=m+1:=⟨d-1,by omega⟩;have UP:2^(m+1)=2*2^m:=by rw[Nat.pow_succ];omega
   have Iu:IntKind.i64.wrap (((m+1:Nat):Int)-1)=(m:Nat):=by rw[aaC];omega
   conv=>whnf
   refine dV hp _ S (by omega) fun y h2 hy S1=>?_;replace S:=S1;clear S1;conv=>whnf
   refine ae (fun g2=>?_) (fun g2=>?_)
   ·conv=>whnf
    refine dV hp _ S (by omega) fun y h2 hy S1=>?_;replace S:=S1;clear S1;conv=>whnf
    refine⟨_,rfl,rfl,rfl,.inl ⟨_,S.row 1 rfl,rfl,?_⟩⟩;conv=>whnf
    intro h3 R9;replace S:=S.w1 R9;conv=>whnf
    exact⟨_,aS rfl rfl (S.row 1 rfl) rfl rfl,CV (au:=1) (y:=y) (t:=zT) (a:=0) (b:=0) (agg:=0) (col:=0) (w:=2) (ao:=[]) (by omega) rfl (by simp) (by simp[aA.wu];omega) (by decide) (by decide) (aj.xg (d:=.s 19 []) (v:=.nil) (fun _=>rI 19) (S.drop 1))⟩
   conv=>whnf
   rw[Iu];refine ih m (by omega) (by omega) S (by omega) fun p w h3 jP Ss U8 S1=>?_;replace S:=S1;clear S1;obtain⟨au,pn,⟨tk,pK,⟨t1,t2,t3,t4⟩,⟨t5,t6,t7,t8⟩⟩,cells,pa,pb,aq,agg,col,ao⟩:=p;have Ph:1<=2^m:=Nat.one_le_two_pow;conv=>whnf
   intro k2 a2 jS jb;replace S:=(S.alloc jS jb).swap;conv=>whnf
   refine⟨_,rfl,rfl,rfl,.inl ⟨_,S.row 1 rfl,rfl,?_⟩⟩;conv=>whnf
   intro h4 xk;replace S:=S.w1 xk;conv=>whnf
   refine dV hp _ S (by omega) fun y h5 hy S1=>?_;replace S:=S1;clear S1;conv=>whnf
   refine ae (fun g3=>?_) (fun g3=>?_)
   ·refine aC (S.row 1 rfl) ?_;conv=>whnf
    intro k3 a3 mF lI;replace S:=(S.alloc mF lI).swap;conv=>whnf
    refine Cc hp w S (by omega) fun t h5 S1=>?_;replace S:=S1;clear S1;obtain⟨uk,Pm,⟨u1,u2,u3,u4⟩,⟨u5,u6,u7,u8⟩⟩:=t;conv=>whnf
    refine⟨?_,?_⟩
    ·repeat
      ((conv=>whnf);first|trivial|refine⟨by first|((conv=>whnf);exact⟨_,rfl,S.row 1 rfl⟩)|((conv=>whnf);exact cm rfl (S.row 2 rfl) rfl rfl),?_⟩)
    conv=>whnf
    refine⟨_,rfl,rfl,rfl,.inl ⟨_,S.row 3 rfl,rfl,?_⟩⟩;conv=>whnf
    intro h6 gU;replace S:=S.w3 gU;conv=>whnf
    have S2:=((S.drop 2).drop 2).swap;dsimp only[List.eraseIdx]at S2;exact⟨_,aS rfl rfl (S.row 3 rfl) rfl rfl,CV (au:=2) (y:=0) (t:=⟨uk,Pm,⟨u1,u2,u3,u4⟩,⟨u5,u6,u7,u8⟩⟩) (a:=0) (b:=0) (agg:=0) (col:=0) (w:=w) (ao:=[(aA.mk au pn ⟨tk,pK,⟨t1,t2,t3,t4⟩,⟨t5,t6,t7,t8⟩⟩ cells pa pb aq agg col ao)]) (by omega) (by rfl) (by intro d hd;simp at hd;subst hd;show(1:Nat)<=4000000;decide) (by simp only[aA.wu,aak,abj];omega) Ss U8 (aj.O4 (q:=(aA.mk au pn ⟨tk,pK,⟨t1,t2,t3,t4⟩,⟨t5,t6,t7,t8⟩⟩ cells pa pb aq agg col ao)) S2)⟩
   conv=>whnf
   refine ae (fun g4=>?_) (fun g4=>?_)
   ·refine aC (S.row 1 rfl) ?_;conv=>whnf
    intro k3 a3 mF lI;replace S:=(S.alloc mF lI).swap;conv=>whnf
    refine Cc hp w S (by omega) fun t h5 S1=>?_;replace S:=S1;clear S1;obtain⟨uk,Pm,⟨u1,u2,u3,u4⟩,⟨u5,u6,u7,u8⟩⟩:=t;conv=>whnf
    refine⟨?_,?_⟩
    ·repeat
      ((conv=>whnf);first|trivial|refine⟨by first|((conv=>whnf);exact⟨_,rfl,S.row 1 rfl⟩)|((conv=>whnf);exact cm rfl (S.row 2 rfl) rfl rfl),?_⟩)
    conv=>whnf
    refine⟨_,rfl,rfl,rfl,.inl ⟨_,S.row 3 rfl,rfl,?_⟩⟩;conv=>whnf
    intro h6 gU;replace S:=S.w3 gU;conv=>whnf
    have S2:=((S.drop 2).drop 2).swap;dsimp only[List.eraseIdx]at S2;exact⟨_,aS rfl rfl (S.row 3 rfl) rfl rfl,CV (au:=2) (y:=0) (t:=⟨uk,Pm,⟨u1,u2,u3,u4⟩,⟨u5,u6,u7,u8⟩⟩) (a:=0) (b:=0) (agg:=0) (col:=0) (w:=w) (ao:=[(aA.mk au pn ⟨tk,pK,⟨t1,t2,t3,t4⟩,⟨t5,t6,t7,t8⟩⟩ cells pa pb aq agg col ao)]) (by omega) (by rfl) (by intro d hd;simp at hd;subst hd;show(1:Nat)<=4000000;decide) (by simp only[aA.wu,aak,abj];omega) Ss U8 (aj.O4 (q:=(aA.mk au pn ⟨tk,pK,⟨t1,t2,t3,t4⟩,⟨t5,t6,t7,t8⟩⟩ cells pa pb aq agg col ao)) S2)⟩
   conv=>whnf
   refine ae (fun g5=>?_) (fun g5=>?_)
   ·refine aC (S.row 1 rfl) ?_;conv=>whnf
    intro k3 a3 mF lI;replace S:=S.alloc mF lI;conv=>whnf
    intro k4 a4 vp qX;replace S:=S.alloc vp qX;conv=>whnf
    refine⟨_,rfl,rfl,rfl,.inl ⟨_,S.row 0 rfl,rfl,?_⟩⟩;conv=>whnf
    intro h5 qh;replace S:=S.w0 qh;conv=>whnf
    replace S:=S.q2;refine dV hp _ S (by omega) fun c h6 hc S1=>?_;replace S:=S1;clear S1;have MR:0<=c/\c<=2:=by unfold Sy at hc;omega
    have hwc:IntKind.i64.wrap (1+c)=1+c:=by rw[aaC];omega
    conv=>whnf
    rw[hwc];obtain⟨nn,hnn⟩: ∃nn,nn=n+40*2^m:=⟨_,rfl⟩;replace S:=aj.fm (m:=nn) S (by omega);replace S:=(aj.lJ 4 S).swap;refine dQ (fun m tm hp=>∃(j:Nat)(C:af)(F:List Nat)(cs:List Cell)(e:Int),j+m=(1+c).toNat/\tm 9=i64 e/\aj hp (.rd k (nn+3*j):: .jA 4 (cs.map fun c:Cell=>.v c.enc) C F:: .row k4 (.box (nb 3 0 zT C 0 0 .nil 0 0 (.own k3 0 1))):: .row k3 (.arr 19 [(aA.mk au pn ⟨tk,pK,⟨t1,t2,t3,t4⟩,⟨t5,t6,t7,t8⟩⟩ cells pa pb aq agg col ao).enc]):: .row k2 (.box (aA.mk au pn ⟨tk,pK,⟨t1,t2,t3,t4⟩,⟨t5,t6,t7,t8⟩⟩ cells pa pb aq agg col ao).enc):: .row k1 (.box (nb 0 0 zT .nil 0 0 .nil 0 0 .nil))::L)/\(cs.length=j)/\(e=1+c-(j:Int))) (fun m tm hq bG hI=>?_) ((1+c).toNat) ⟨0,.nil,[],[],1+c,by simp,rfl,S,(rfl),(by simp)⟩;obtain⟨j,C,F,cs,e,hj,e9,S2,jM,he⟩:=hI;have k0:=bG 0 (by kernel_rfl);conv at k0=>rhs;whnf
    have k4:=bG 4 (by kernel_rfl);conv at k4=>rhs;whnf
    have k6:=bG 6 (by kernel_rfl);conv at k6=>rhs;whnf
    have k7:=bG 7 (by kernel_rfl);conv at k7=>rhs;whnf
    have k8:=bG 8 (by kernel_rfl);conv at k8=>rhs;whnf
    refine⟨[(0,_),(4,_),(6,_),(7,_),(8,_),(9,_)],⟨k0,k4,k6,k7,k8,e9,trivial⟩,?_⟩;clear bG k0 k4 k6 k7 k8 e9;replace S:=S2;clear S2;conv=>whnf
    refine ae (fun gm=>?_) (fun gm=>?_)
    ·have hj:(j:Int)<1+c:=by simp at gm;omega
     have qc:IntKind.i64.wrap (e-1)=e-1:=by rw[aaC];omega
     refine aC (S.row 2 rfl) ?_;conv=>whnf
     refine vB hp w S (by omega) fun c0 h7 S1=>?_;replace S:=S1;clear S1;obtain⟨v1,v2,v3,v4⟩:=c0;conv=>whnf
     refine⟨?_,?_⟩
     ·repeat
       ((conv=>whnf);first|trivial|refine⟨by first|((conv=>whnf);exact cm rfl (S.row 2 rfl) rfl rfl),?_⟩)
     conv=>whnf
     replace S:=(aj.xg (d:=.v (Cell.enc ⟨v1,v2,v3,v4⟩)) (v:=Cell.enc ⟨v1,v2,v3,v4⟩) (fun _=>by unfold cq;exact⟨rfl,rfl,rfl⟩) S).front 2 rfl;dsimp only[List.eraseIdx]at S;intro pI pJ dT dU;replace S:=S.alloc dT dU;conv=>whnf
     refine⟨trivial,?_⟩;conv=>whnf
     refine⟨[_],bT (S.row 0 rfl),fi rfl rfl,?_⟩;replace S:=S.drop 0;dsimp only[List.eraseIdx]at S;refine lp (sz:=4) (d:=.v (Cell.enc ⟨v1,v2,v3,v4⟩)) S (by simp[bB];omega) fun k5 h8 F5 S1=>?_;clear S;have S:=S1.swap;clear S1;conv=>whnf
     refine⟨_,rfl,rfl,rfl,.inl ⟨_,S.row 2 rfl,rfl,?_⟩⟩;conv=>whnf
     intro h9 nu;replace S:=S.w2 nu;conv=>whnf
     exact⟨m-1,by omega,j+1,_,_,cs++[⟨v1,v2,v3,v4⟩],_,by omega,rfl,aj.fm (by rw[aaD];exact S) (by omega),by simp[jM],by rw[aaC];omega⟩
    ·have hj: ¬(j:Int)<1+c:=by simp at gm;omega
     refine aC (S.row 2 rfl) ?_;refine aC (S.row 2 rfl) ?_;conv=>whnf
     rcases CU (f:=fun c:Cell=>bg.v c.enc) (sv.Xy (show sv 4 _ _ C F from S.get 1 rfl))with⟨rfl,h0⟩|⟨idc,rfl⟩
     ·exfalso;subst h0;simp at jM;omega
     ·conv=>whnf
      refine⟨_,rfl,rfl,rfl,.inl ⟨_,S.row 5 rfl,rfl,?_⟩⟩;conv=>whnf
      intro Zr r7;replace S:=S.w5 r7;conv=>whnf
      refine⟨?_,?_⟩
      ·repeat
        ((conv=>whnf);first|trivial|refine⟨by first|((conv=>whnf);exact cm rfl (S.row 2 rfl) rfl rfl),?_⟩)
      conv=>whnf
      have S2:=(((S.drop 5).drop 4).drop 2).front 2 rfl;dsimp only[List.eraseIdx]at S2;replace S2:=(aj.O4 (q:=(aA.mk au pn ⟨tk,pK,⟨t1,t2,t3,t4⟩,⟨t5,t6,t7,t8⟩⟩ cells pa pb aq agg col ao)) S2).front 2 rfl;dsimp only[List.eraseIdx]at S2;replace S2:=(aj.Jj 1 (aj.qU S2)).swap;exact⟨_,aS rfl rfl (S.row 5 rfl) rfl rfl,fin (au:=3) (y:=0) (t:=zT) (cells:=cs) (a:=0) (b:=0) (aq:=[]) (agg:=0) (col:=0) (w:=(cs.length:Int)) (ao:=[(aA.mk au pn ⟨tk,pK,⟨t1,t2,t3,t4⟩,⟨t5,t6,t7,t8⟩⟩ cells pa pb aq agg col ao)]) (Q:=[]) (by omega) (by rfl) (by intro d hd;simp at hd;subst hd;show(1:Nat)<=4000000;decide) (by simp only[aA.wu,aak,abj];omega) (by omega) (by omega) S2⟩
   conv=>whnf
   refine ae (fun g6=>?_) (fun g6=>?_)
   ·conv=>whnf
    rw[Iu];refine⟨_,M7 hp 2 (m:Nat) _,?_⟩;have W3:(if(2:Int)<((m:Nat):Int)then 2 else((m:Nat):Int))=((min 2 m:Nat):Int):=by split<;>omega
    rw[W3];have xP:=M8 m;have hp4:1<=2^(min 2 m):=Nat.one_le_two_pow;conv=>whnf
    refine ih (min 2 m) (by omega) (by omega) S (by omega) fun q w2 h6 Zs xF hv6 S1=>?_;replace S:=S1;clear S1;obtain⟨cG,U9,⟨TD,Jl,⟨Va,Vb,Vc,Vd⟩,⟨Ve,Vf,Vg,Vh⟩⟩,bR,Vi,Vj,cH,dE,ke,cE⟩:=q;conv=>whnf
    intro k3 a3 mF lI;replace S:=(S.alloc mF lI).swap;conv=>whnf
    refine⟨_,rfl,rfl,rfl,.inl ⟨_,S.row 1 rfl,rfl,?_⟩⟩;conv=>whnf
    intro h7 w8;replace S:=S.w1 w8;conv=>whnf
    have W4:IntKind.i64.wrap (w+w2)=w+w2:=by rw[aaC];omega
    rw[W4];refine ae (fun gj=>?_) (fun gj=>?_)
    ·refine aC (S.row 2 rfl) ?_;conv=>whnf
     refine⟨_,rfl,rfl,rfl,.inl ⟨_,S.row 3 rfl,rfl,?_⟩⟩;conv=>whnf
     intro h8 pE;replace S:=S.w3 pE;conv=>whnf
     exact⟨_,aS rfl rfl (S.row 3 rfl) rfl rfl,FW (p:=(aA.mk au pn ⟨tk,pK,⟨t1,t2,t3,t4⟩,⟨t5,t6,t7,t8⟩⟩ cells pa pb aq agg col ao)) (w:=w) (aj.frozen (aA.mk au pn ⟨tk,pK,⟨t1,t2,t3,t4⟩,⟨t5,t6,t7,t8⟩⟩ cells pa pb aq agg col ao) (aj.fm (((S.drop 1).drop 1).drop 1) (by omega))) rfl (by show(1:Nat)<=4100000;decide) ⟨_,w,rfl,by omega,Ss,U8⟩⟩
    ·have W5:w+w2<=6:=by simpa using gj
     refine aC (S.row 2 rfl) ?_;refine aC (S.row 1 rfl) ?_;conv=>whnf
     intro k4 a4 vp qX;replace S:=(S.alloc vp qX).swap;conv=>whnf
     refine dV hp _ S (by omega) fun x1 h8 CB S1=>?_;replace S:=S1;clear S1;conv=>whnf
     refine⟨?_,?_⟩
     ·repeat
       ((conv=>whnf);first|trivial|refine⟨by first|((conv=>whnf);exact⟨_,rfl,S.row 1 rfl⟩)|((conv=>whnf);exact cm rfl (S.row 2 rfl) rfl rfl)|((conv=>whnf);exact cm rfl (S.row 3 rfl) rfl rfl),?_⟩)
     conv=>whnf
     refine dV hp _ S (by omega) fun x2 h9 yQ S1=>?_;replace S:=S1;clear S1;conv=>whnf
     refine⟨?_,?_⟩
     ·repeat
       ((conv=>whnf);first|trivial|refine⟨by first|((conv=>whnf);exact⟨_,rfl,S.row 1 rfl⟩)|((conv=>whnf);exact cm rfl (S.row 2 rfl) rfl rfl)|((conv=>whnf);exact cm rfl (S.row 3 rfl) rfl rfl),?_⟩)
     conv=>whnf
     refine⟨_,rfl,rfl,rfl,.inl ⟨_,S.row 4 rfl,rfl,?_⟩⟩;conv=>whnf
     intro Zr r7;replace S:=S.w4 r7;conv=>whnf
     have S2:=(((S.drop 2).drop 2).drop 2).swap;dsimp only[List.eraseIdx]at S2;exact⟨_,aS rfl rfl (S.row 4 rfl) rfl rfl,CV (au:=4) (y:=0) (t:=zT) (a:=x1) (b:=x2) (agg:=0) (col:=0) (w:=IntKind.i64.wrap (w+w2)) (ao:=[(aA.mk au pn ⟨tk,pK,⟨t1,t2,t3,t4⟩,⟨t5,t6,t7,t8⟩⟩ cells pa pb aq agg col ao),(aA.mk cG U9 ⟨TD,Jl,⟨Va,Vb,Vc,Vd⟩,⟨Ve,Vf,Vg,Vh⟩⟩ bR Vi Vj cH dE ke cE)]) (by omega) (by rfl) (by intro d hd;simp at hd;rcases hd with rfl|rfl<;>(show(1:Nat)<=4000000;decide)) (by simp only[aA.wu,aak,abj];omega) (by rw[W4];omega) (by rw[W4];exact W5) (aj.W0 (q:=(aA.mk au pn ⟨tk,pK,⟨t1,t2,t3,t4⟩,⟨t5,t6,t7,t8⟩⟩ cells pa pb aq agg col ao)) (r:=(aA.mk cG U9 ⟨TD,Jl,⟨Va,Vb,Vc,Vd⟩,⟨Ve,Vf,Vg,Vh⟩⟩ bR Vi Vj cH dE ke cE)) S2)⟩
   conv=>whnf
   refine ae (fun g7=>?_) (fun g7=>?_)
   ·conv=>whnf
    rw[Iu];refine⟨_,M7 hp 2 (m:Nat) _,?_⟩;have W3:(if(2:Int)<((m:Nat):Int)then 2 else((m:Nat):Int))=((min 2 m:Nat):Int):=by split<;>omega
    rw[W3];have xP:=M8 m;have hp4:1<=2^(min 2 m):=Nat.one_le_two_pow;conv=>whnf
    refine ih (min 2 m) (by omega) (by omega) S (by omega) fun q w2 h6 Zs xF hv6 S1=>?_;replace S:=S1;clear S1;obtain⟨cG,U9,⟨TD,Jl,⟨Va,Vb,Vc,Vd⟩,⟨Ve,Vf,Vg,Vh⟩⟩,bR,Vi,Vj,cH,dE,ke,cE⟩:=q;conv=>whnf
    intro k3 a3 mF lI;replace S:=(S.alloc mF lI).swap;conv=>whnf
    refine⟨_,rfl,rfl,rfl,.inl ⟨_,S.row 1 rfl,rfl,?_⟩⟩;conv=>whnf
    intro h7 w8;replace S:=S.w1 w8;conv=>whnf
    have W4:IntKind.i64.wrap (w+w2)=w+w2:=by rw[aaC];omega
    rw[W4];refine ae (fun gj=>?_) (fun gj=>?_)
    ·refine aC (S.row 2 rfl) ?_;conv=>whnf
     refine⟨_,rfl,rfl,rfl,.inl ⟨_,S.row 3 rfl,rfl,?_⟩⟩;conv=>whnf
     intro h8 pE;replace S:=S.w3 pE;conv=>whnf
     exact⟨_,aS rfl rfl (S.row 3 rfl) rfl rfl,FW (p:=(aA.mk au pn ⟨tk,pK,⟨t1,t2,t3,t4⟩,⟨t5,t6,t7,t8⟩⟩ cells pa pb aq agg col ao)) (w:=w) (aj.frozen (aA.mk au pn ⟨tk,pK,⟨t1,t2,t3,t4⟩,⟨t5,t6,t7,t8⟩⟩ cells pa pb aq agg col ao) (aj.fm (((S.drop 1).drop 1).drop 1) (by omega))) rfl (by show(1:Nat)<=4100000;decide) ⟨_,w,rfl,by omega,Ss,U8⟩⟩
    ·have W5:w+w2<=6:=by simpa using gj
     refine aC (S.row 2 rfl) ?_;refine aC (S.row 1 rfl) ?_;conv=>whnf
     intro k4 a4 vp qX;replace S:=(S.alloc vp qX).swap;conv=>whnf
     refine dV hp _ S (by omega) fun x1 h8 CB S1=>?_;replace S:=S1;clear S1;conv=>whnf
     refine⟨?_,?_⟩
     ·repeat
       ((conv=>whnf);first|trivial|refine⟨by first|((conv=>whnf);exact⟨_,rfl,S.row 1 rfl⟩)|((conv=>whnf);exact cm rfl (S.row 2 rfl) rfl rfl)|((conv=>whnf);exact cm rfl (S.row 3 rfl) rfl rfl),?_⟩)
     conv=>whnf
     refine dV hp _ S (by omega) fun x2 h9 yQ S1=>?_;replace S:=S1;clear S1;conv=>whnf
     refine⟨?_,?_⟩
     ·repeat
       ((conv=>whnf);first|trivial|refine⟨by first|((conv=>whnf);exact⟨_,rfl,S.row 1 rfl⟩)|((conv=>whnf);exact cm rfl (S.row 2 rfl) rfl rfl)|((conv=>whnf);exact cm rfl (S.row 3 rfl) rfl rfl),?_⟩)
     conv=>whnf
     refine⟨_,rfl,rfl,rfl,.inl ⟨_,S.row 4 rfl,rfl,?_⟩⟩;conv=>whnf
     intro Zr r7;replace S:=S.w4 r7;conv=>whnf
     have S2:=(((S.drop 2).drop 2).drop 2).swap;dsimp only[List.eraseIdx]at S2;exact⟨_,aS rfl rfl (S.row 4 rfl) rfl rfl,CV (au:=4) (y:=0) (t:=zT) (a:=x1) (b:=x2) (agg:=0) (col:=0) (w:=IntKind.i64.wrap (w+w2)) (ao:=[(aA.mk au pn ⟨tk,pK,⟨t1,t2,t3,t4⟩,⟨t5,t6,t7,t8⟩⟩ cells pa pb aq agg col ao),(aA.mk cG U9 ⟨TD,Jl,⟨Va,Vb,Vc,Vd⟩,⟨Ve,Vf,Vg,Vh⟩⟩ bR Vi Vj cH dE ke cE)]) (by omega) (by rfl) (by intro d hd;simp at hd;rcases hd with rfl|rfl<;>(show(1:Nat)<=4000000;decide)) (by simp only[aA.wu,aak,abj];omega) (by rw[W4];omega) (by rw[W4];exact W5) (aj.W0 (q:=(aA.mk au pn ⟨tk,pK,⟨t1,t2,t3,t4⟩,⟨t5,t6,t7,t8⟩⟩ cells pa pb aq agg col ao)) (r:=(aA.mk cG U9 ⟨TD,Jl,⟨Va,Vb,Vc,Vd⟩,⟨Ve,Vf,Vg,Vh⟩⟩ bR Vi Vj cH dE ke cE)) S2)⟩
   conv=>whnf
   refine ae (fun g8=>?_) (fun g8=>?_)
   ·conv=>whnf
    rw[Iu];refine ih m (by omega) (by omega) S (by omega) fun q w2 h6 Zs xF hv6 S1=>?_;replace S:=S1;clear S1;obtain⟨cG,U9,⟨TD,Jl,⟨Va,Vb,Vc,Vd⟩,⟨Ve,Vf,Vg,Vh⟩⟩,bR,Vi,Vj,cH,dE,ke,cE⟩:=q;conv=>whnf
    intro k3 a3 mF lI;replace S:=(S.alloc mF lI).swap;conv=>whnf
    refine⟨_,rfl,rfl,rfl,.inl ⟨_,S.row 1 rfl,rfl,?_⟩⟩;conv=>whnf
    intro h7 w8;replace S:=S.w1 w8;conv=>whnf
    refine ae (fun gj=>?_) (fun gj=>?_)
    ·have Zt:=BM hp (aA.mk au pn ⟨tk,pK,⟨t1,t2,t3,t4⟩,⟨t5,t6,t7,t8⟩⟩ cells pa pb aq agg col ao) (by unfold aA.small;omega);refine aC (S.row 2 rfl) ?_;refine aC (S.row 2 rfl) ?_;conv=>whnf
     refine fp S Zt rfl rfl fun v9 h8 F9 o9 S1=>?_;clear S Zt;have S:=S1;clear S1;obtain⟨C9,K9,D9,Fc,Fk,Fd,rfl,oC,oK,oD,rfl⟩:=lX.1 (show lh h8 (aA.mk au pn ⟨tk,pK,⟨t1,t2,t3,t4⟩,⟨t5,t6,t7,t8⟩⟩ cells pa pb aq agg col ao) v9 F9 from by simpa only[cq]using o9);clear o9;conv=>whnf
     intro k4 a4 vp qX;replace S:=S.alloc vp qX;conv=>whnf
     refine⟨_,rfl,rfl,rfl,.inl ⟨_,S.row 5 rfl,rfl,?_⟩⟩;conv=>whnf
     intro Zr r7;replace S:=S.w5 r7;conv=>whnf
     have S2:=((S.drop 3).drop 3).drop 3;dsimp only[List.eraseIdx]at S2;exact⟨_,aS rfl rfl (S.row 5 rfl) rfl rfl,CV (au:=5) (y:=0) (t:=zT) (a:=0) (b:=0) (agg:=0) (col:=0) (w:=w) (ao:=[(aA.mk au pn ⟨tk,pK,⟨t1,t2,t3,t4⟩,⟨t5,t6,t7,t8⟩⟩ cells pa pb aq agg col ao),(aA.mk au pn ⟨tk,pK,⟨t1,t2,t3,t4⟩,⟨t5,t6,t7,t8⟩⟩ cells pa pb aq agg col ao)]) (by omega) (by rfl) (by intro d hd;simp at hd;rcases hd with rfl|rfl;(show(1:Nat)<=4000000;decide);(show 2*_+6<=4000000;omega)) (by simp only[aA.wu,aak,abj];omega) (by omega) U8 (aj.Zq (q:=(aA.mk au pn ⟨tk,pK,⟨t1,t2,t3,t4⟩,⟨t5,t6,t7,t8⟩⟩ cells pa pb aq agg col ao)) (r:=(aA.mk au pn ⟨tk,pK,⟨t1,t2,t3,t4⟩,⟨t5,t6,t7,t8⟩⟩ cells pa pb aq agg col ao)) S2)⟩
    ·refine aC (S.row 2 rfl) ?_;refine aC (S.row 1 rfl) ?_;conv=>whnf
     intro k4 a4 vp qX;replace S:=(S.alloc vp qX).swap;conv=>whnf
     refine⟨_,rfl,rfl,rfl,.inl ⟨_,S.row 4 rfl,rfl,?_⟩⟩;conv=>whnf
     intro Zr r7;replace S:=S.w4 r7;conv=>whnf
     have S2:=(((S.drop 2).drop 2).drop 2).swap;dsimp only[List.eraseIdx]at S2;exact⟨_,aS rfl rfl (S.row 4 rfl) rfl rfl,CV (au:=5) (y:=0) (t:=zT) (a:=0) (b:=0) (agg:=0) (col:=0) (w:=w) (ao:=[(aA.mk au pn ⟨tk,pK,⟨t1,t2,t3,t4⟩,⟨t5,t6,t7,t8⟩⟩ cells pa pb aq agg col ao),(aA.mk cG U9 ⟨TD,Jl,⟨Va,Vb,Vc,Vd⟩,⟨Ve,Vf,Vg,Vh⟩⟩ bR Vi Vj cH dE ke cE)]) (by omega) (by rfl) (by intro d hd;simp at hd;rcases hd with rfl|rfl<;>(show(1:Nat)<=4000000;decide)) (by simp only[aA.wu,aak,abj];omega) (by omega) U8 (aj.W0 (q:=(aA.mk au pn ⟨tk,pK,⟨t1,t2,t3,t4⟩,⟨t5,t6,t7,t8⟩⟩ cells pa pb aq agg col ao)) (r:=(aA.mk cG U9 ⟨TD,Jl,⟨Va,Vb,Vc,Vd⟩,⟨Ve,Vf,Vg,Vh⟩⟩ bR Vi Vj cH dE ke cE)) S2)⟩
   conv=>whnf
   refine ae (fun g9=>?_) (fun g9=>?_)
   ·refine aC (S.row 1 rfl) ?_;conv=>whnf
    intro k3 a3 mF lI;replace S:=S.alloc mF lI;conv=>whnf
    refine⟨_,rfl,rfl,rfl,.inl ⟨_,S.row 3 rfl,rfl,?_⟩⟩;conv=>whnf
    intro h6 gU;replace S:=S.w3 gU;conv=>whnf
    have S2:=(S.drop 2).drop 2;dsimp only[List.eraseIdx]at S2;exact⟨_,aS rfl rfl (S.row 3 rfl) rfl rfl,CV (au:=6) (y:=0) (t:=zT) (a:=0) (b:=0) (agg:=0) (col:=0) (w:=w) (ao:=[(aA.mk au pn ⟨tk,pK,⟨t1,t2,t3,t4⟩,⟨t5,t6,t7,t8⟩⟩ cells pa pb aq agg col ao)]) (by omega) (by rfl) (by intro d hd;simp at hd;subst hd;show(1:Nat)<=4000000;decide) (by simp only[aA.wu,aak,abj];omega) Ss U8 (aj.O4 (q:=(aA.mk au pn ⟨tk,pK,⟨t1,t2,t3,t4⟩,⟨t5,t6,t7,t8⟩⟩ cells pa pb aq agg col ao)) S2)⟩
   refine aC (S.row 1 rfl) ?_;conv=>whnf
   intro k3 a3 mF lI;replace S:=(S.alloc mF lI).swap;conv=>whnf
   intro k4 a4 vp qX;replace S:=(S.alloc vp qX).swap;conv=>whnf
   refine dV hp _ S (by omega) fun x1 h6 CB S1=>?_;replace S:=S1;clear S1;conv=>whnf
   refine⟨?_,?_⟩
   ·repeat
     ((conv=>whnf);first|trivial|refine⟨by first|((conv=>whnf);exact⟨_,rfl,S.row 1 rfl⟩)|((conv=>whnf);exact⟨_,rfl,S.row 2 rfl⟩)|((conv=>whnf);exact cm rfl (S.row 3 rfl) rfl rfl),?_⟩)
   conv=>whnf
   refine dV hp _ S (by omega) fun x2 h7 yQ S1=>?_;replace S:=S1;clear S1;conv=>whnf
   refine⟨?_,?_⟩
   ·repeat
     ((conv=>whnf);first|trivial|refine⟨by first|((conv=>whnf);exact⟨_,rfl,S.row 1 rfl⟩)|((conv=>whnf);exact⟨_,rfl,S.row 2 rfl⟩)|((conv=>whnf);exact cm rfl (S.row 3 rfl) rfl rfl),?_⟩)
   conv=>whnf
   refine⟨_,rfl,rfl,rfl,.inl ⟨_,S.row 1 rfl,rfl,?_⟩⟩;conv=>whnf
   intro h8 pE;replace S:=S.w1 pE;conv=>whnf
   refine dV hp _ S (by omega) fun x3 h9 hx3 S1=>?_;replace S:=S1;clear S1;conv=>whnf
   refine ae (fun gk=>?_) (fun gk=>?_)
   ·refine aC (S.row 1 rfl) ?_;conv=>whnf
    refine dV hp _ S (by omega) fun x4 Zr hx4 S1=>?_;replace S:=S1;clear S1;conv=>whnf
    refine⟨?_,?_⟩
    ·repeat
      ((conv=>whnf);first|trivial|refine⟨by first|((conv=>whnf);exact cm rfl (S.row 1 rfl) rfl rfl),?_⟩)
    conv=>whnf
    replace S:=aj.lJ 1 S;replace S:=(aj.xg (d:=.i x4) (fun _=>uq x4) S).swap;intro pI pJ dT dU;replace S:=S.alloc dT dU;conv=>whnf
    refine⟨trivial,?_⟩;conv=>whnf
    refine⟨[_],bT (S.row 0 rfl),dI rfl rfl,?_⟩;replace S:=S.drop 0;dsimp only[List.eraseIdx]at S;refine lp (sz:=1) (d:=.i x4) S (by simp[bB]) fun k5 h11 F5 S1=>?_;replace S:=S1;clear S1;conv=>whnf
    refine⟨_,rfl,rfl,rfl,.inl ⟨_,S.row 2 rfl,rfl,?_⟩⟩;conv=>whnf
    intro h12 W6;replace S:=S.w2 W6;refine aC (S.row 2 rfl) ?_;refine aC (S.row 2 rfl) ?_;conv=>whnf
    refine⟨_,rfl,rfl,rfl,.inl ⟨_,S.row 5 rfl,rfl,?_⟩⟩;conv=>whnf
    intro h13 LG;replace S:=S.w5 LG;conv=>whnf
    refine⟨?_,?_⟩
    ·repeat
      ((conv=>whnf);first|trivial|refine⟨by first|((conv=>whnf);exact cm rfl (S.row 2 rfl) rfl rfl),?_⟩)
    conv=>whnf
    have S2:=((S.drop 2).drop 3).drop 3;dsimp only[List.eraseIdx]at S2;replace S2:=aj.O4 (q:=(aA.mk au pn ⟨tk,pK,⟨t1,t2,t3,t4⟩,⟨t5,t6,t7,t8⟩⟩ cells pa pb aq agg col ao)) (S2.front 2 rfl);replace S2:=aj.Jj 4 (aj.qU (S2.front 1 rfl));exact⟨_,aS rfl rfl (S.row 5 rfl) rfl rfl,fin (au:=7) (y:=0) (t:=zT) (cells:=[]) (a:=0) (b:=0) (aq:=[x4]) (agg:=x1) (col:=x2) (w:=2) (ao:=[(aA.mk au pn ⟨tk,pK,⟨t1,t2,t3,t4⟩,⟨t5,t6,t7,t8⟩⟩ cells pa pb aq agg col ao)]) (Q:=[]) (by omega) (by rfl) (by intro d hd;simp at hd;subst hd;show(1:Nat)<=4000000;decide) (by simp only[aA.wu,aak,abj];omega) (by decide) (by decide) S2⟩
   ·refine aC (S.row 1 rfl) ?_;refine aC (S.row 1 rfl) ?_;conv=>whnf
    refine⟨_,rfl,rfl,rfl,.inl ⟨_,S.row 4 rfl,rfl,?_⟩⟩;conv=>whnf
    intro h13 LG;replace S:=S.w4 LG;conv=>whnf
    refine⟨?_,?_⟩
    ·repeat
      ((conv=>whnf);first|trivial|refine⟨by first|((conv=>whnf);exact cm rfl (S.row 1 rfl) rfl rfl),?_⟩)
    conv=>whnf
    have S2:=(((S.drop 1).drop 2).drop 2).swap;dsimp only[List.eraseIdx]at S2;exact⟨_,aS rfl rfl (S.row 4 rfl) rfl rfl,CV (au:=7) (y:=0) (t:=zT) (a:=0) (b:=0) (agg:=x1) (col:=x2) (w:=1) (ao:=[(aA.mk au pn ⟨tk,pK,⟨t1,t2,t3,t4⟩,⟨t5,t6,t7,t8⟩⟩ cells pa pb aq agg col ao)]) (by omega) (by rfl) (by intro d hd;simp at hd;subst hd;show(1:Nat)<=4000000;decide) (by simp only[aA.wu,aak,abj];omega) (by decide) (by decide) (aj.O4 (q:=(aA.mk au pn ⟨tk,pK,⟨t1,t2,t3,t4⟩,⟨t5,t6,t7,t8⟩⟩ cells pa pb aq agg col ao)) S2)⟩
theorem Sa(hp:cF pr){h:aG}{L:List Chunk}{k n:Nat}(S:aj h (.rd k n::L))(hn:n<=90000000000){K:ef->Prop}
  (hK: ∀(p:aA) h',p.sz<=640->aj h' (.rd k (n+1000)::L)->K (.ret p.enc h')):
  ∃r,cj (dZ pr) (call (dZ pr)) 82 [.ptr k 0 0] h=some r/\K r:=by
   refine LF (m:=n+1000) (P:=fun x=>∃p:aA,x=p.enc/\p.sz<=640) rfl (hp.out _ rfl) S (fun L S=>?_) fun x h' hx S1=>by
    obtain⟨p,rfl,h1⟩:=hx;exact hK p h' h1 S1
   clear hK K
   have fin: ∀{h2:aG}{n2:Nat}{d:bg}{v:af}{F:List Nat}{p:aA},n2<=n+1000->d.enc=p.enc->d.dep<=4100000->p.sz<=640->aj h2 (.dL d v F:: .rd k n2::L)->
     ∃v' h1 x CR,ef.ret v h2= .ret v' h1/\aj h1 (CR:: .rd k (n+1000)::L)/\(∀h',CR.P h'->Am.snap h' v'=some x)/\ ∃p:aA,x=p.enc/\p.sz<=640:=by
      intro h2 n2 d v F p W1 he hd jP S2;exact⟨_,_,_,_,rfl,(aj.fm S2.swap W1).swap,fun h' ho=>cq.snap (show cq h' d v F from ho) (by omega),p,he,jP⟩
   conv=>whnf
   intro k1 a1 eg er;replace S:=(S.alloc eg er).swap;conv=>whnf
   refine dV hp _ S (by omega) fun x h2 hx S1=>?_;replace S:=S1;clear S1;obtain⟨d,rfl⟩: ∃d:Nat,x=(d:Int):=⟨x.toNat,by unfold Sy at hx;omega⟩;have hd:d<=3:=by unfold Sy at hx;omega
   have Iu:IntKind.i64.wrap (1+(d:Int))=((d+1:Nat):Int):=by rw[aaC];omega
   have xP:2^(d+1)<=2^4:=Nat.pow_le_pow_right (by decide) (by omega);rw[show(2^4:Nat)=16 by decide]at xP;conv=>whnf
   rw[Iu];refine Jk hp (d+1) (by omega) S (by omega) fun p w h3 jP Ss U8 S1=>?_;clear S;have S:=aj.fm (m:=n+641) S1 (by omega);clear S1;have jP:p.sz<=640:=by omega
   have yu:=qd hp p [2,2] (by unfold aA.small;omega);generalize dY p [2,2]=pw at yu;obtain⟨au,pn,⟨tk,pK,⟨t1,t2,t3,t4⟩,⟨t5,t6,t7,t8⟩⟩,cells,pa,pb,aq,agg,col,ao⟩:=p;conv=>whnf
   intro k2 a2 jS jb;replace S:=(S.alloc jS jb).swap;conv=>whnf
   refine⟨_,rfl,rfl,rfl,.inl ⟨_,S.row 1 rfl,rfl,?_⟩⟩;conv=>whnf
   intro h4 xk;replace S:=S.w1 xk;refine aC (S.row 1 rfl) ?_;conv=>whnf
   have W7:=yu;intro kk ak RA Zu;replace S:=S.alloc RA Zu;conv=>whnf
   refine⟨_,yu.here (bu rfl (rG (qG (es:=[i64 2,i64 2]) (S.row 0 rfl) (fun x hx=>by simp at hx;subst hx;rfl)))) rfl rfl,?_⟩;clear yu;replace S:=S.drop 0;dsimp only[List.eraseIdx]at S;conv=>whnf
   refine ae (fun gy=>?_) (fun gy=>?_)
   ·clear W7 jP;conv=>whnf
    refine Jk hp 2 (by omega) S (by omega) fun p w2 h5 jP xF hv6 S1=>?_;clear S;have S:=aj.fm (m:=n+900) S1 (by omega);clear S1;have jP:p.sz<=640:=by omega
    have yu:=qd hp p [2,2] (by unfold aA.small;omega);generalize dY p [2,2]=pw2 at yu;obtain⟨au,pn,⟨tk,pK,⟨t1,t2,t3,t4⟩,⟨t5,t6,t7,t8⟩⟩,cells,pa,pb,aq,agg,col,ao⟩:=p;conv=>whnf
    refine⟨_,rfl,rfl,rfl,.inl ⟨_,S.row 1 rfl,rfl,?_⟩⟩;conv=>whnf
    intro h6 gU;replace S:=S.w1 gU;refine aC (S.row 1 rfl) ?_;conv=>whnf
    intro kk ak RA Zu;replace S:=S.alloc RA Zu;conv=>whnf
    refine⟨_,yu.here (bu rfl (rG (qG (es:=[i64 2,i64 2]) (S.row 0 rfl) (fun x hx=>by simp at hx;subst hx;rfl)))) rfl rfl,?_⟩;clear yu;replace S:=S.drop 0;dsimp only[List.eraseIdx]at S;conv=>whnf
    refine ae (fun gz=>?_) (fun gz=>?_)
    ·conv=>whnf
     refine⟨_,rfl,rfl,rfl,.inl ⟨_,S.row 2 rfl,rfl,?_⟩⟩;conv=>whnf
     intro h9 nu;replace S:=S.w2 nu;conv=>whnf
     have S2:=aj.Jj 4 (aj.Jj 1 (aj.xg (d:=.s 19 []) (v:=.nil) (fun _=>rI 19) ((S.drop 1).drop 1)));dsimp only[List.eraseIdx]at S2;exact⟨_,eu rfl rfl (S.row 2 rfl) rfl,fin (p:=.mk 1 0 zT [] 0 0 [] 0 0 []) (by omega) (yw rfl) (by have:=yx (au:=1) (n:=0) (t:=zT) (cells:=[]) (a:=0) (b:=0) (aq:=[]) (agg:=0) (col:=0) (Aa:=[]) (by simp);omega) (by simp[aA.sz,aA.wu]) (yy (cells:=[]) (aq:=[]) S2)⟩
    ·refine aC (S.row 1 rfl) ?_;conv=>whnf
     refine⟨_,rfl,rfl,rfl,.inl ⟨_,S.row 2 rfl,rfl,?_⟩⟩;conv=>whnf
     intro h9 nu;replace S:=S.w2 nu;conv=>whnf
     exact⟨_,eu rfl rfl (S.row 2 rfl) rfl,fin (p:=(aA.mk au pn ⟨tk,pK,⟨t1,t2,t3,t4⟩,⟨t5,t6,t7,t8⟩⟩ cells pa pb aq agg col ao)) (by omega) rfl (by show(1:Nat)<=4100000;decide) jP (aj.frozen (aA.mk au pn ⟨tk,pK,⟨t1,t2,t3,t4⟩,⟨t5,t6,t7,t8⟩⟩ cells pa pb aq agg col ao) ((S.drop 1).drop 1))⟩
   ·have yu:=W7;clear W7;refine aC (S.row 1 rfl) ?_;conv=>whnf
    intro kk ak RA Zu;replace S:=S.alloc RA Zu;conv=>whnf
    refine⟨_,yu.here (bu rfl (rG (qG (es:=[i64 2,i64 2]) (S.row 0 rfl) (fun x hx=>by simp at hx;subst hx;rfl)))) rfl rfl,?_⟩;clear yu;replace S:=S.drop 0;dsimp only[List.eraseIdx]at S;conv=>whnf
    refine ae (fun gz=>?_) (fun gz=>?_)
    ·conv=>whnf
     refine⟨_,rfl,rfl,rfl,.inl ⟨_,S.row 2 rfl,rfl,?_⟩⟩;conv=>whnf
     intro h9 nu;replace S:=S.w2 nu;conv=>whnf
     have S2:=aj.Jj 4 (aj.Jj 1 (aj.xg (d:=.s 19 []) (v:=.nil) (fun _=>rI 19) ((S.drop 1).drop 1)));dsimp only[List.eraseIdx]at S2;exact⟨_,eu rfl rfl (S.row 2 rfl) rfl,fin (p:=.mk 1 0 zT [] 0 0 [] 0 0 []) (by omega) (yw rfl) (by have:=yx (au:=1) (n:=0) (t:=zT) (cells:=[]) (a:=0) (b:=0) (aq:=[]) (agg:=0) (col:=0) (Aa:=[]) (by simp);omega) (by simp[aA.sz,aA.wu]) (yy (cells:=[]) (aq:=[]) S2)⟩
    ·refine aC (S.row 1 rfl) ?_;conv=>whnf
     refine⟨_,rfl,rfl,rfl,.inl ⟨_,S.row 2 rfl,rfl,?_⟩⟩;conv=>whnf
     intro h9 nu;replace S:=S.w2 nu;conv=>whnf
     exact⟨_,eu rfl rfl (S.row 2 rfl) rfl,fin (p:=(aA.mk au pn ⟨tk,pK,⟨t1,t2,t3,t4⟩,⟨t5,t6,t7,t8⟩⟩ cells pa pb aq agg col ao)) (by omega) rfl (by show(1:Nat)<=4100000;decide) jP (aj.frozen (aA.mk au pn ⟨tk,pK,⟨t1,t2,t3,t4⟩,⟨t5,t6,t7,t8⟩⟩ cells pa pb aq agg col ao) ((S.drop 1).drop 1))⟩
end Go.Proofs.YtfepbikckfehlaaGreat

/- Draws: rows, items, cells, tests. -/
import Derived.Test.YtfepbikckfehlaaGreatGH40
import Derived.Test.YtfepbikckfehlaaGreatGH28
import Derived.Test.YtfepbikckfehlaaGreatGH27
set_option linter.unusedVariables false
set_option linter.unusedSimpArgs false
set_option maxHeartbeats 4000000
namespace Go.Proofs.YtfepbikckfehlaaGreat
open Go Go.Am
variable{pr:bW}(hp:cF pr)
set_option maxRecDepth 100000
def Ca:bN:=⟨[2,2],[[],[]],[],0,0⟩
theorem O3(hp:cF pr):lZ pr 49 [] Ca.da:=by
 have h1:=xi hp U6 2 (by decide);have h2:=xi hp ⟨[2],[[]],[],0,0⟩ 2 (by decide);rw[show tC U6 2=(⟨[2],[[]],[],0,0⟩,0) by rfl]at h1;rw[show tC ⟨[2],[[]],[],0,0⟩ 2=(Ca,0) by rfl]at h2;refine nh hp rfl ?_;have S:=aj.nil [];conv=>whnf
 intro k1 a1 eg er;replace S:=S.alloc eg er;conv=>whnf
 refine iG S h1 rfl (by rfl) fun vs q1 F1 S1=>?_;clear S h1;obtain⟨v1,G1,rfl,S2⟩:=aj.y6 S1;clear S1;have S:=S2
 have oG:Am.snap q1 v1=some (bN.enc ⟨[2],[[]],[],0,0⟩):=by
  rw[<-bN.iY];exact cq.snap (show cq q1 _ v1 G1 from S.get 0 rfl) (by decide)
 obtain⟨W,T,V,_,_,_,rfl,c1,c2,c3,_⟩:=aj.iZ S2;clear S2;conv=>whnf
 intro k2 a2 jS jb;replace S:=S.alloc jS jb;conv=>whnf
 refine⟨[W,T,V,i64 0,i64 0],(by kernel_rfl),rfl,(bM c1 (bM c2 (bM c3 rfl))),.inl ⟨_,S.row 0 rfl,rfl,?_⟩⟩;conv=>whnf
 intro b1 fw;replace S:=S.w0 fw;conv=>whnf
 have oG:Am.snap b1 (.agg [W,T,V,i64 0,i64 0])=some (bN.enc ⟨[2],[[]],[],0,0⟩):=by
  rw[<-bN.iY];exact cq.snap (show cq b1 _ _ G1 from S.get 1 rfl) (by decide)
 refine aC (S.row 0 rfl) ?_;conv=>whnf
 refine iG S h2 rfl (bu oG rfl) fun vs q2 F2 S1=>?_;clear S h2 oG;obtain⟨v2,G2,rfl,S2⟩:=aj.y6 S1;clear S1;have S:=S2;obtain⟨W2,T2,V2,_,_,_,rfl,c4,c5,c6,_⟩:=aj.iZ S2;clear S2;conv=>whnf
 intro k3 a3 mF lI;replace S:=S.alloc mF lI;conv=>whnf
 refine⟨[W2,T2,V2,i64 0,i64 0],(by kernel_rfl),rfl,(bM c4 (bM c5 (bM c6 rfl))),.inl ⟨_,S.row 0 rfl,rfl,?_⟩⟩;conv=>whnf
 intro b2 ea;replace S:=S.w0 ea;refine aC (S.row 0 rfl) ?_;conv=>whnf
 refine⟨[W2,T2,V2,i64 0,i64 0],(by kernel_rfl),rfl,(bM c4 (bM c5 (bM c6 rfl))),.inl ⟨_,S.row 4 rfl,rfl,?_⟩⟩;conv=>whnf
 intro b3 fY;replace S:=S.w4 fY;conv=>whnf
 have ho:=S.get' 1 _ rfl;exact⟨_,eu rfl rfl (S.row 4 rfl) rfl,_,_,_,rfl,ho.1,ho.2⟩
def u8(n:Int):af:=.int .u8 n
def rdP(k n:Nat)(h:aG):Prop:=∃(bs:List Int)(p:Int),h[k]?=some (.box (.agg [.sl (bs.map u8),i64 p]))/\bs.length<=2000/\(∀b∈bs,0<=b/\b<256)/\0<=p/\p<=n
def _root_.Go.Am.Chunk.rd(k n:Nat):Chunk:=⟨[k],rdP k n,fun h h' hp hf=>by
 obtain⟨bs,p,h1,h2⟩:=hp
 exact⟨bs,p,by rw[hf k (by simp)];exact h1,h2⟩,fun h hp id dm=>by
 obtain⟨bs,p,h1,h2⟩:=hp;simp at dm;subst dm;exact ib h1⟩
theorem aj.R8{h:aG}{L:List Chunk}{k n:Nat}(S:aj h (.rd k n::L)): ∃(bs:List Int)(p:Int),aj h (.row k (.box (.agg [.sl (bs.map u8),i64 p]))::L)/\bs.length<=2000/\(∀b∈bs,0<=b/\b<256)/\0<=p/\p<=n:=by
 obtain⟨bs,p,h1,h2⟩:rdP k n h:=S.get 0 rfl;exact⟨bs,p,S.is (c':=.row k (.box (.agg [.sl (bs.map u8),i64 p]))) h1 rfl,h2⟩
theorem aj.r6{h:aG}{L:List Chunk}{k n:Nat}{bs:List Int}{p:Int}(S:aj h (.row k (.box (.agg [.sl (bs.map u8),i64 p]))::L))(h1:bs.length<=2000)(h2: ∀b∈bs,0<=b/\b<256)(h3:0<=p)(h4:p<=n):aj h (.rd k n::L):=
 S.is (c':=.rd k n) ⟨bs,p,S.row 0 rfl,h1,h2,h3,h4⟩ rfl
theorem aj.fm{h:aG}{L:List Chunk}{k n m:Nat}(S:aj h (.rd k n::L))(hm:n<=m):aj h (.rd k m::L):=by
 obtain⟨bs,p,S1,h1,h2,h3,h4⟩:=aj.R8 S;exact aj.r6 S1 h1 h2 h3 (by omega)
def Sy(x a:Int):Prop:=0<=x/\(x<a∨(a<1/\x=0))
theorem g8{bs:List Int}(h2: ∀b∈bs,0<=b/\b<256){p:Int}(h0:0<=p)(h1:p<bs.length): ∃b:Int,(bs.map u8)[p.toNat]?=some (u8 b)/\0<=b/\b<256:=by
 have hl:p.toNat<bs.length:=by omega
 exact⟨bs[p.toNat],by simp[hl],h2 _ (aac hl)⟩
theorem M6{x a:Int}(hx:0<=x)(ha:1<=a):Sy (x.tmod a) a:=⟨Int.tmod_nonneg _ hx,.inl (Int.tmod_lt_of_pos _ (by omega))⟩
theorem tH{x:Int}(h1: -4611686018427387904<=x)(h2:x<=4611686018427387904):IntKind.i64.wrap x=x:=by rw[aaC];omega
theorem Uh{x y:Int}(hx:0<=x)(yQ:x<4611686018427387904)(hy:0<=y)(Yr:y<4611686018427387904):0<=IntKind.i64.wrap (((BitVec.ofInt IntKind.i64.bits x) ^^^(BitVec.ofInt IntKind.i64.bits y)).toNat:Int):=by
 change 0<=IntKind.i64.wrap (((BitVec.ofInt 64 x) ^^^(BitVec.ofInt 64 y)).toNat:Int)
 have e: ∀z:Int,0<=z->z<4611686018427387904->(BitVec.ofInt 64 z).toNat=z.toNat:=fun z h1 h2=>by
  rw[BitVec.toNat_ofInt];omega
 rw[BitVec.toNat_xor,e x hx yQ,e y hy Yr];have h:=Nat.xor_lt_two_pow (n:=62) (x:=x.toNat) (y:=y.toNat) (by omega) (by omega);rw[aaC];omega
theorem dV(hp:cF pr)(a:Int){h:aG}{L:List Chunk}{k n:Nat}(S:aj h (.rd k n::L))(hn:n<=1000000000000){K:ef->Prop}(hK: ∀x h',Sy x a->aj h' (.rd k (n+1)::L)->K (.ret (i64 x) h')):
  ∃r,cj (dZ pr) (call (dZ pr)) 50 [.ptr k 0 0,i64 a] h=some r/\K r:=by
   obtain⟨bs,p,S1,h1,h2,h3,h4⟩:=aj.R8 S;replace S:=S1;clear S1;rw[nN rfl];refine dJ (hp.out _ rfl) ?_;refine aC (S.row 0 rfl) ?_;conv=>whnf
   refine⟨_,rfl,rfl,rfl,.inl ⟨_,S.row 0 rfl,rfl,?_⟩⟩;conv=>whnf
   intro h5 qh;replace S:=S.w0 qh;conv=>whnf
   have hw:IntKind.i64.wrap (p+1)=p+1:=by rw[aaC];omega
   rw[hw]at S;clear qh;have Wd:p+1<=((n+1:Nat):Int):=by omega
   refine ae (fun g1=>?_) (fun g1=>?_)
   ·conv=>whnf
    refine⟨_,rfl,hK 0 _ ⟨by omega,by simp at g1;omega⟩ (aj.r6 S h1 h2 (by omega) Wd)⟩
   have g1: ¬a<1:=by simpa using g1
   refine aC (S.row 0 rfl) ?_;conv=>whnf
   rw[aat];refine ae (fun g2=>?_) (fun g2=>?_)
   ·conv=>whnf
    refine⟨_,rfl,hK 0 _ ⟨by omega,by omega⟩ (aj.r6 S h1 h2 (by omega) Wd)⟩
   have g2:0<bs.length:=by simp at g2;exact List.length_pos_iff.2 g2
   refine aC (S.row 0 rfl) ?_;conv=>whnf
   have CQ:IntKind.i64.wrap (p+1-1)=p:=by rw[aaC];omega
   rw[CQ];refine aC (S.row 0 rfl) ?_;conv=>whnf
   rw[aat];refine ae (fun g3=>?_) (fun g3=>?_)
   ·refine aC (S.row 0 rfl) ?_;conv=>whnf
    have hg:=g8 h2 h3 (by simpa using g3);obtain⟨b,hb,hb1,Uy⟩:=hg;refine⟨_,hb,h3,rfl,?_⟩;conv=>whnf
    refine⟨rfl,by omega,?_⟩;conv=>whnf
    refine⟨_,rfl,hK _ _ (M6 (by rw[aaC];omega) (by omega)) (aj.r6 S h1 h2 (by omega) Wd)⟩
   ·refine aC (S.row 0 rfl) ?_;refine aC (S.row 0 rfl) ?_;conv=>whnf
    rw[aat];refine⟨rfl,by omega,?_⟩;conv=>whnf
    obtain⟨b,hb,hb1,Uy⟩:=g8 h2 (p:=p.tmod bs.length) (Int.tmod_nonneg _ h3) (Int.tmod_lt_of_pos _ (by omega));refine⟨_,hb,Int.tmod_nonneg _ h3,rfl,?_⟩;refine aC (S.row 0 rfl) ?_;refine aC (S.row 0 rfl) ?_;conv=>whnf
    rw[aat];refine⟨rfl,by omega,?_⟩;conv=>whnf
    have hw3:IntKind.i64.wrap (IntKind.i64.wrap (p*7)+3)=p*7+3:=by rw[aaC,aaC];omega
    rw[hw3];obtain⟨c,hc,MR,Gd⟩:=g8 h2 (p:=(p*7+3).tmod bs.length) (Int.tmod_nonneg _ (by omega)) (Int.tmod_lt_of_pos _ (by omega));refine⟨_,hc,Int.tmod_nonneg _ (by omega),rfl,?_⟩;refine aC (S.row 0 rfl) ?_;conv=>whnf
    rw[aat];refine⟨rfl,by omega,?_⟩;conv=>whnf
    refine⟨rfl,by omega,?_⟩;conv=>whnf
    have AO:0<=p.tdiv bs.length:=Int.tdiv_nonneg h3 (by omega);have qD:p.tdiv bs.length<=p:=Int.tdiv_le_self _ h3;generalize p.tdiv bs.length=q at AO qD⊢
    have hX:IntKind.i64.wrap (IntKind.i64.wrap (IntKind.i64.wrap (IntKind.i64.wrap (IntKind.i64.wrap b*131)+IntKind.i64.wrap (IntKind.i64.wrap c*1117))+IntKind.i64.wrap (p*29))+IntKind.i64.wrap (IntKind.i64.wrap q*53))=b*131+c*1117+p*29+q*53:=by
     rw[tH (x:=b) (by omega) (by omega),tH (x:=c) (by omega) (by omega),tH (x:=q) (by omega) (by omega),tH (x:=b*131) (by omega) (by omega),tH (x:=c*1117) (by omega) (by omega),tH (x:=p*29) (by omega) (by omega),tH (x:=q*53) (by omega) (by omega),
      tH (x:=b*131+c*1117) (by omega) (by omega),tH (x:=b*131+c*1117+p*29) (by omega) (by omega),tH (by omega) (by omega)]
    rw[hX];have Z7:0<=b*131+c*1117+p*29+q*53:=by omega
    have hX2:b*131+c*1117+p*29+q*53<4611686018427387904:=by omega
    generalize b*131+c*1117+p*29+q*53=X at Z7 hX2⊢;have hY1:0<=X.tdiv 64:=Int.tdiv_nonneg Z7 (by omega);have hY2:X.tdiv 64<=X:=Int.tdiv_le_self _ Z7;rw[tH (x:=X.tdiv 64) (by omega) (by omega)];refine⟨rfl,by omega,?_⟩;conv=>whnf
    refine⟨_,rfl,hK _ _ (M6 (Uh Z7 hX2 hY1 (by omega)) (by omega)) (aj.r6 S h1 h2 (by omega) Wd)⟩
theorem nZ(hp:cF pr)(xs:List Int)(hx:0<xs.length)(Xf:xs.length<=100){h:aG}{L:List Chunk}{k n id:Nat}(S:aj h (.rd k n:: .row id (.arr 1 (xs.map i64))::L))(hn:n<=1000000000000){K:ef->Prop}(hK: ∀x h',x∈xs->aj h' (.rd k (n+1)::L)->K (.ret (i64 x) h')):
  ∃r,cj (dZ pr) (call (dZ pr)) 18 [.ptr k 0 0,.own id 0 xs.length] h=some r/\K r:=by
   rw[nN rfl];refine dJ (hp.out _ rfl) ?_;conv=>whnf
   refine dV hp _ S hn fun x h' hx S1=>?_;replace S:=S1;clear S1;have CB:0<=x/\x<xs.length:=by unfold Sy at hx;omega
   have dw:(xs.map i64)[0+x.toNat]?=some (i64 xs[x.toNat]):=by simp[show x.toNat<xs.length by omega]
   have lT:xs[x.toNat]∈xs:=aac (by omega);generalize xs[x.toNat]=y at dw lT;conv=>whnf
   refine⟨_,S.row 1 rfl,⟨CB.1,CB.2⟩,?_⟩;conv=>whnf
   refine .inr ⟨_,_,_,S.row 1 rfl,dw,gH (v:=i64 y) rfl ?_⟩;conv=>whnf
   exact⟨_,rfl,hK _ _ lT (S.drop 1)⟩
theorem Jh(hp:cF pr)(bs:List Int)(hb: ∀b∈bs,0<=b/\b<256)(AE:bs.length<=1048576){h:aG}{L:List Chunk}(S:aj h L){K:ef->Prop}(hK: ∀k h',aj h' (.rd k 0::L)->K (.ret (.ptr k 0 0) h')):
  ∃r,cj (dZ pr) (call (dZ pr)) 16 [.sl (bs.map u8)] h=some r/\K r:=by
   rw[nN rfl];refine dJ (hp.out _ rfl) ?_;conv=>whnf
   rw[aat];refine ae (fun g1=>?_) (fun g1=>?_)
   ·conv=>whnf
    refine⟨⟨by simp,by simp,by simp at g1⊢;omega,by rw[aaj];intro y hy;obtain⟨z,_,rfl⟩:=aaO.1 hy;rfl⟩,?_⟩;have hc:((bs.map u8).drop ((none:Option Int).getD 0).toNat).take (((some 2000).getD ((bs.map u8).length:Int)).toNat-((none:Option Int).getD 0).toNat)=(bs.take 2000).map u8:=by simp[List.map_take]
    conv=>whnf
    intro k1 a1 eg er;replace S:=S.alloc eg er;conv=>whnf
    refine⟨_,rfl,hK _ _ (aj.r6 (bs:=bs.take 2000) (p:=0) ?_ (by simp;omega) (fun b hb'=>hb b (abz hb')) (Int.le_refl _) (Int.le_refl _))⟩;rw[<-hc];exact S
   ·conv=>whnf
    intro k1 a1 eg er;replace S:=S.alloc eg er;conv=>whnf
    exact⟨_,rfl,hK _ _ (aj.r6 S (by simp at g1;omega) hb (Int.le_refl _) (Int.le_refl _))⟩
theorem uf(hp:cF pr)(wide:Int)(hw:wide<=10){h:aG}{L:List Chunk}{k n:Nat}(S:aj h (.rd k n::L))(hn:n<=900000000000){K:ef->Prop}
  (hK: ∀(xs:List Int) v h',(xs.length:Int)=max 0 wide->(∀x∈xs,-1<=x/\x<=5)->aj h' (.rd k (n+10):: .acc i64 1 xs v::L)->K (.ret v h')):
  ∃r,cj (dZ pr) (call (dZ pr)) 88 [.ptr k 0 0,i64 wide] h=some r/\K r:=by
   rw[nN rfl];refine dJ (hp.out _ rfl) ?_;conv=>whnf
   replace S:=(aj.nF i64 1 S).swap;refine dQ (fun m tm hp=>∃(j:Nat)(D:af)(xs:List Int),j+m=wide.toNat/\tm 5=D/\tm 6=i64 (j:Nat)/\aj hp (.rd k (n+j):: .acc i64 1 xs D::L)/\(xs.length=j)/\(∀x∈xs,-1<=x/\x<=5)) (fun m tm hq bG hI=>?_) (wide.toNat) ⟨0,.nil,[],by simp,rfl,rfl,S,(rfl),(by simp)⟩;obtain⟨j,D,xs,hj,e5,e6,S2,Xf,hxb⟩:=hI;have k0:=bG 0 (by kernel_rfl);conv at k0=>rhs;whnf
   have k1:=bG 1 (by kernel_rfl);conv at k1=>rhs;whnf
   refine⟨[(0,_),(1,_),(5,_),(6,_)],⟨k0,k1,e5,e6,trivial⟩,?_⟩;clear bG k0 k1 e5 e6;replace S:=S2;clear S2;conv=>whnf
   refine ae (fun h1=>?_) (fun h1=>?_)
   ·have gA:j<4611686018427387904:=by simp at h1;omega
    have af8:j<10:=by simp at h1;omega
    conv=>whnf
    intro k1 a1 eg er;replace S:=S.alloc eg er;conv=>whnf
    replace S:=S.swap;refine nZ hp [0,1,2,3,1,2,-1,5] (by simp) (by simp) S (by omega) fun x h' hx S1=>?_;clear S;have S:=S1.swap;clear S1;conv=>whnf
    intro pI pJ dT dU;replace S:=S.alloc dT dU;conv=>whnf
    refine⟨trivial,?_⟩;conv=>whnf
    refine⟨[_],bT (S.row 0 rfl),dI rfl rfl,?_⟩;replace S:=S.drop 0;dsimp only[List.eraseIdx]at S;refine qp (f:=i64) (x:=x) S (by simp[bB];omega) fun k2 Dc S2 _=>?_;conv=>whnf
    refine⟨m-1,by simp at h1;omega,j+1,_,xs++[x],by simp at h1;omega,rfl,aP j gA,S2.swap,by simp[Xf],fun y hy=>?_⟩;rcases aaS.1 hy with hy|hy
    ·exact hxb y hy
    ·simp at hy hx;omega
   ·conv=>whnf
    refine⟨_,rfl,hK xs _ _ ?_ hxb (aj.fm S ?_)⟩
    ·simp at h1;omega
    ·simp at h1;omega
def Cb(wide:Int)(yv:Nat)(z:List Item):Prop:=z.length<=yv/\ ∀x∈z,(x.row.length:Int)=max 0 wide/\ ∀c∈x.row,-1<=c/\c<=5
theorem LC{wide:Int}{yv:Nat}{z:List Item}{r:List Int}{w:Int}(hz:Cb wide yv z)(hr:(r.length:Int)=max 0 wide)(hc: ∀c∈r,-1<=c/\c<=5):Cb wide (yv+1) (hY z r w):=by
 refine⟨aa3 (wL _ _ _) (by have:=hz.1;omega),fun x hx=>?_⟩;rcases qM x hx with e|⟨y,hy,e⟩
 ·rw[e];exact⟨hr,hc⟩
 ·rw[e];exact hz.2 y hy
theorem LD{wide:Int}{yv:Nat}{z:List Item}(hz:Cb wide yv z)(hw:wide<=10): ∀x∈z,x.row.length<=dB:=fun x hx=>by
 have:=(hz.2 x hx).1;simp[dB];omega
theorem Ui(hp:cF pr)(wide:Int)(yv:Nat)(hw:wide<=10)(hm:yv<=20){h:aG}{L:List Chunk}{k n:Nat}(S:aj h (.rd k n::L))(hn:n<=800000000000){K:ef->Prop}
  (hK: ∀(z:List Item) v F h',Cb wide yv z->aj h' (.rd k (n+400):: .jA 2 (z.map Item.d) v F::L)->K (.ret v h')):
  ∃r,cj (dZ pr) (call (dZ pr)) 52 [.ptr k 0 0,i64 wide,i64 yv] h=some r/\K r:=by
   rw[nN rfl];refine dJ (hp.out _ rfl) ?_;conv=>whnf
   have hwm:IntKind.i64.wrap ((yv:Int)+1)=((yv+1:Nat):Int):=by rw[aaC];omega
   rw[hwm];refine dV hp _ S (by omega) fun c h1 hc S1=>?_;clear S;have S:=(aj.lJ 2 S1).swap;clear S1;have MR:0<=c/\c<=yv:=by unfold Sy at hc;omega
   conv=>whnf
   refine dQ (fun m tm hp=>∃(j:Nat)(D:af)(F:List Nat)(z:List Item)(e:Int),j+m=c.toNat/\tm 7=D/\tm 8=i64 e/\aj hp (.rd k (n+1+11*j):: .jA 2 (z.map Item.d) D F::L)/\(Cb wide j z)/\(e=c-(j:Int))) (fun m tm hq bG hI=>?_) (c.toNat) ⟨0,.nil,[],[],c,by simp,rfl,rfl,S,(⟨by simp,by simp⟩),(by simp)⟩;obtain⟨j,D,F,z,e,hj,e7,e8,S2,hz,he⟩:=hI;have k0:=bG 0 (by kernel_rfl);conv at k0=>rhs;whnf
   have k1:=bG 1 (by kernel_rfl);conv at k1=>rhs;whnf
   refine⟨[(0,_),(1,_),(7,_),(8,_)],⟨k0,k1,e7,e8,trivial⟩,?_⟩;clear bG k0 k1 e7 e8;replace S:=S2;clear S2;conv=>whnf
   refine ae (fun g1=>?_) (fun g1=>?_)
   ·have hj:(j:Int)<c:=by simp at g1;omega
    conv=>whnf
    refine uf hp wide hw S (by omega) fun xs rv h2 CB yQ S1=>?_;clear S;conv=>whnf
    intro k1 a1 eg er;replace S1:=S1.alloc eg er;conv=>whnf
    replace S1:=S1.swap;refine nZ hp [1,1,1,2,-1,3,-2] (by simp) (by simp) S1 (by omega) fun w h3 Cq S2=>?_;clear S1;have S:=S2.front 2 rfl;dsimp only[List.eraseIdx]at S;clear S2;conv=>whnf
    refine l8 hp z xs w _ (by have:=hz.1;simp[dB];omega) (LD hz hw) (by simp[dB];omega) S (fun h' S'=>iR.snap ((aj.kn (S'.front 1 rfl)).get 0 rfl)) fun v' h4 F' S1=>?_;clear S;have S:=(S1.drop 2).swap;dsimp only[List.eraseIdx]at S;clear S1;conv=>whnf
    exact⟨m-1,by omega,j+1,_,_,_,_,by omega,rfl,rfl,aj.fm S (by omega),LC hz CB yQ,by rw[aaC];omega⟩
   ·conv=>whnf
    have hj:(j:Int)>=c:=by simp at g1;omega
    exact⟨_,rfl,hK z _ _ _ ⟨by have:=hz.1;omega,hz.2⟩ (aj.fm S (by omega))⟩
theorem vB(hp:cF pr)(wide:Int){h:aG}{L:List Chunk}{k n:Nat}(S:aj h (.rd k n::L))(hn:n<=800000000000){K:ef->Prop}
  (hK: ∀(c:Cell) h',aj h' (.rd k (n+3)::L)->K (.ret c.enc h')):
  ∃r,cj (dZ pr) (call (dZ pr)) 137 [.ptr k 0 0,i64 wide] h=some r/\K r:=by
   rw[nN rfl];refine dJ (hp.out _ rfl) ?_;conv=>whnf
   intro k1 a1 eg er;replace S:=(S.alloc eg er).swap;conv=>whnf
   refine dV hp _ S (by omega) fun x h2 hx S1=>?_;clear S;conv=>whnf
   refine ae (fun g1=>?_) (fun g1=>?_)
   ·conv=>whnf
    intro k2 a2 jS jb;have S:=(S1.alloc jS jb).swap;clear S1;conv=>whnf
    refine nZ hp [0,1,2,-1,5] (by simp) (by simp) S (by omega) fun y h3 hy S1=>?_;replace S:=S1;clear S1;conv=>whnf
    refine⟨_,rfl,rfl,rfl,.inl ⟨_,S.row 1 rfl,rfl,?_⟩⟩;conv=>whnf
    intro h4 xk;replace S:=S.w1 xk;conv=>whnf
    exact⟨_,eu rfl rfl (S.row 1 rfl) rfl,hK ⟨2,0,0,y⟩ _ (aj.fm (S.drop 1) (by omega))⟩
   conv=>whnf
   refine ae (fun g2=>?_) (fun g2=>?_)
   ·conv=>whnf
    refine dV hp _ S1 (by omega) fun y h3 hy S=>?_;clear S1;conv=>whnf
    refine dV hp _ S (by omega) fun z h4 hz S1=>?_;replace S:=S1;clear S1;conv=>whnf
    refine⟨_,rfl,rfl,rfl,.inl ⟨_,S.row 1 rfl,rfl,?_⟩⟩;conv=>whnf
    intro h5 qh;replace S:=S.w1 qh;conv=>whnf
    exact⟨_,eu rfl rfl (S.row 1 rfl) rfl,hK ⟨3,y,z,0⟩ _ (aj.fm (S.drop 1) (by omega))⟩
   conv=>whnf
   refine dV hp _ S1 (by omega) fun y h3 hy S=>?_;clear S1;conv=>whnf
   refine⟨_,rfl,rfl,rfl,.inl ⟨_,S.row 1 rfl,rfl,?_⟩⟩;conv=>whnf
   intro h5 qh;replace S:=S.w1 qh;conv=>whnf
   exact⟨_,eu rfl rfl (S.row 1 rfl) rfl,hK ⟨1,y,0,0⟩ _ (aj.fm (S.drop 1) (by omega))⟩
theorem Cc(hp:cF pr)(wide:Int){h:aG}{L:List Chunk}{k n:Nat}(S:aj h (.rd k n::L))(hn:n<=700000000000){K:ef->Prop}
  (hK: ∀(t:Test) h',aj h' (.rd k (n+8)::L)->K (.ret t.enc h')):
  ∃r,cj (dZ pr) (call (dZ pr)) 136 [.ptr k 0 0,i64 wide] h=some r/\K r:=by
   rw[nN rfl];refine dJ (hp.out _ rfl) ?_;conv=>whnf
   intro k1 a1 eg er;replace S:=(S.alloc eg er).swap;conv=>whnf
   refine dV hp _ S (by omega) fun x h2 hx S1=>?_;clear S;conv=>whnf
   refine dV hp _ S1 (by omega) fun y h3 hy S=>?_;clear S1;conv=>whnf
   refine ae (fun g1=>?_) (fun g1=>?_)
   all_goals
    conv=>whnf
    refine vB hp wide S (by omega) fun c h4 S1=>?_;clear S;conv=>whnf
    refine vB hp wide S1 (by omega) fun d h5 S=>?_;clear S1;obtain⟨c1,c2,c3,c4⟩:=c;obtain⟨d1,d2,d3,d4⟩:=d;conv=>whnf
    refine⟨_,rfl,rfl,rfl,.inl ⟨_,S.row 1 rfl,rfl,?_⟩⟩;conv=>whnf
    intro h6 gU;replace S:=S.w1 gU;conv=>whnf
    exact⟨_,eu rfl rfl (S.row 1 rfl) rfl,hK ⟨_,_,⟨c1,c2,c3,c4⟩,⟨d1,d2,d3,d4⟩⟩ _ (aj.fm (S.drop 1) (by omega))⟩
end Go.Proofs.YtfepbikckfehlaaGreat

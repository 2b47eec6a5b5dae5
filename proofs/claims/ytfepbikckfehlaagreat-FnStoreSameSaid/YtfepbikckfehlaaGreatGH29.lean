/- What is read of a store: the reference's. -/
import Derived.Test.YtfepbikckfehlaaGreatGH28
import Derived.Test.YtfepbikckfehlaaGreatGH27
import Derived.Test.YtfepbikckfehlaaGreatGH23
set_option linter.unusedVariables false
set_option linter.unusedSimpArgs false
set_option maxHeartbeats 4000000
namespace Go.Proofs.YtfepbikckfehlaaGreat
open Go Go.Am
theorem DQ(done:List (List Item))(z:List Item):jd (done++[z])=dt (jd done) z:=by simp[jd,List.foldl_append]
theorem K7(done:List (List Item)):lF (jd done):=by
 unfold jd
 have: ∀(l:List (List Item))(a:List Item),lF a->lF (l.foldl dt a):=by
  intro l
  induction l with
  |nil=>intro a h;exact h
  |cons z zs ih=>intro a h;exact ih _ (Bo h z)
 exact this _ _ trivial
theorem IA: ∀(rest done:List (List Item)),s8 (jd done) rest=qe done rest
 | [],_=>rfl
 |z::rest,done=>by
  simp only[s8,qe]
  cases hz:dS z with
  |false=>simp
  |true=>
   have hm:=DP (K7 done) hz;rw[hm,<-DQ,IA rest (done++[z])]
   cases done with
   |nil=>
    have:jd ([]++[z])=z:=by
     rw[DQ];exact md (qO hz) (MN hz)
    rw[this,hz]
    simp
   |cons d ds=>simp[Bool.and_assoc]
theorem Oo(bH:List (List Item)):iV bH=fq bH:=by
 unfold iV fq;rw[<-IA];rfl
theorem iB{α:Type}{f:α->α->Bool}: ∀{us vs:List α},(∀u∈us,∀v,f u v=true->u=v)->bZ f us vs=true->us=vs
 | [],[],_,_=>rfl
 | [],_::_,_,h=>by simp[bZ]at h
 |_::_,[],_,h=>by simp[bZ]at h
 |u::us,v::vs,hf,h=>by
  simp only[bZ,xz]at h;rw[hf u (by simp) v h.1,iB (fun x hx=>hf x (by simp[hx])) h.2]
theorem K8{c d:Cell}(h:kH c d=true):c=d:=by
 obtain⟨k,a,b,n⟩:=c;obtain⟨k2,a2,b2,n2⟩:=d;simp[kH]at h;simp[h]
theorem La{s t:Test}(h:uR s t=true):s=t:=by
 obtain⟨k,no,⟨a1,a2,a3,a4⟩,⟨b1,b2,b3,b4⟩⟩:=s;obtain⟨k',no',⟨a1',NX,a3',a4'⟩,⟨b1',b2',b3',b4'⟩⟩:=t;simp[uR]at h;simp[h]
theorem IB: ∀(N:Nat)(p q:aA),SizeOf.sizeOf p<=N->eY p q=true->p=q:=by
 intro N
 induction N with
 |zero=>intro p q h;cases p;simp at h
 |succ N ih=>
  intro p q hs h;obtain⟨au,n,aD,cells,a,b,aq,agg,c,ao⟩:=p;obtain⟨cG,n',dq,bR,a',b',cH,dE,c',cE⟩:=q;simp only[eY,mO,aA.au,aA.n,aA.aD,aA.cells,aA.a,aA.b,aA.aq,aA.agg,aA.col,aA.ao,xz,beq_iff_eq]at h;obtain⟨⟨rfl,rfl,ht,rfl,rfl,rfl,rfl⟩,hc,hk,vU⟩:=h;rw[La ht,iB (fun _ _ _ h=>K8 h) hc,iB (fun u _ v h=>by simpa using h) hk,iB (fun u hu v h=>ih u v (by have:=abo hu;simp at hs;omega) h) vU]
theorem Bp{p q:aA}(h:eY p q=true):p=q:=IB _ p q (aah _) h
theorem Oq: ∀(d:Nat)(f:bz),dep f.ez<=d->ni d f=kU iV f:=by
 intro d
 induction d with
 |zero=>intro f h;obtain⟨⟨au,n,aD,cells,a,b,aq,agg,c,ao⟩,l,r,ks⟩:=f;simp only[bz.ez,dep]at h;omega
 |succ d ih=>
  intro f h;obtain⟨⟨au,n,aD,cells,a,b,aq,agg,c,ao⟩,l,r,ks⟩:=f;simp only[bz.ez,dep]at h;rw[ni,kU];have UL:kO fq au l r=kO iV au l r:=by simp only[kO,Oo]
  have vU: ∀(ks:List bz)(qs:List aA),(∀q∈qs,dep q<=d)->nO d ks qs=ma iV ks qs:=by
   intro ks
   induction ks with
   |nil=>intro qs _;simp[nO,ma]
   |cons k ks ihk=>
    intro qs hq
    cases qs with
    |nil=>simp[nO,ma]
    |cons q qs=>
     simp only[nO,ma];rw[ihk qs fun x hx=>hq x (by simp[hx])]
     cases he:eY k.ez q with
     |false=>rfl
     |true=>
      have:=Bp he;rw[ih k (by rw[this];exact hq q (by simp))]
  simp only[aA.au,aA.ao];rw[UL,vU ks ao fun q hq=>by have:=sW hq;omega]
theorem Ot(f:bz):(fit f.ez&&ni 6 f)=(fit f.ez&&kU iV f):=by
 cases hf:fit f.ez with
 |false=>rfl
 |true=>
  have:dep f.ez<=6:=by
   simp only[fit,xz]at hf;exact HR 6 _ hf.1
  rw[Oq 6 f this]
end Go.Proofs.YtfepbikckfehlaaGreat
set_option maxHeartbeats 4000000
namespace Go.Proofs.YtfepbikckfehlaaGreat
open Go Go.Am
variable{pr:bW}(hp:cF pr)(hs:DE pr)
set_option maxRecDepth 100000
def nP(z:List Item)(wide:Int):Bool:=z.all fun x=>decide ((x.row.length:Int)=wide)
def jN(z:List Item)(wide:Int):Bool:=nP z wide&&dS z
def td(z:List Item)(wide:Int):Bool:=(z.all fun x=>decide (1<=x.w)&&decide ((x.row.length:Int)=wide))&&dS z
theorem Bq(hp:cF pr)(z:List Item)(wide:Int)(hz:ij z):dK pr 62 [aI.enc z,i64 wide] (.bool (jN z wide)):=by
 have h2:=iU hp z hz;have hl:=hz.1;unfold dB at hl;generalize hR:jN z wide=R;unfold jN nP at hR;refine ff hp rfl rfl ?_;have S:=aj.nil [];conv=>whnf
 refine iv (fun m tm hp=>∃(j:Nat),j+m=z.length/\tm 5=i64 (j:Nat)/\(((z.drop j).all (fun x=>decide ((x.row.length:Int)=wide))&&dS z)=R)) (fun m tm hq bG hI=>?_) (z.length) ⟨0,by simp,(by first|rfl|kernel_rfl|simp),(hR)⟩;obtain⟨j,hj,e5,aF⟩:=hI;have k0:=bG 0 (by kernel_rfl);conv at k0=>rhs;whnf
 rw[<-aR k0];have k1:=bG 1 (by kernel_rfl);conv at k1=>rhs;whnf
 rw[<-aR k1];rw[<-aR e5];clear bG k0 k1 e5;have S:aj hq []:=aj.nil hq;conv=>whnf
 refine ae (fun h1=>?_) (fun h1=>?_)
 ·have bp:j<z.length:=by simpa using h1
  have dw:(z.map Item.enc)[((j:Nat):Int).toNat]?=some (Item.enc z[j]):=by rw[aaa];simp[bp]
  rw[aaf bp,abi]at aF;generalize z[j]=x at dw aF;obtain⟨row,w⟩:=x;simp only at aF;conv=>whnf
  refine⟨_,dw,by omega,rfl,?_⟩;conv=>whnf
  refine ae (fun g1=>?_) (fun g1=>?_)
  ·conv=>whnf
   exact br (by rw[<-aF];have: ¬(row.length:Int)=wide:=by simpa using g1
                simp[this])
  ·have:(row.length:Int)=wide:=by simpa using g1
   rw[show decide ((row.length:Int)=wide)=true by simp[this],aay]at aF;conv=>whnf
   exact⟨m-1,by omega,j+1,by omega,aP j (by omega),aF⟩
 ·have bp:j=z.length:=by
   have: ¬j<z.length:=by simpa using h1
   omega
  subst bp;rw[aal,List.all_nil,aay]at aF;conv=>whnf
  refine⟨_,h2 _,?_⟩;conv=>whnf
  refine ae (fun g1=>?_) (fun g1=>?_)
  ·conv=>whnf
   exact br (by rw[<-aF,g1])
  ·conv=>whnf
   exact br (by rw[<-aF,g1])
theorem TV(hp:cF pr)(z:List Item)(wide:Int)(hz:ij z):dK pr 27 [aI.enc z,i64 wide] (.bool (td z wide)):=by
 have h2:=iU hp z hz;have hl:=hz.1;unfold dB at hl;generalize hR:td z wide=R;unfold td at hR;refine ff hp rfl rfl ?_;have S:=aj.nil [];conv=>whnf
 refine iv (fun m tm hp=>∃(j:Nat),j+m=z.length/\tm 5=i64 (j:Nat)/\(((z.drop j).all (fun x=>decide (1<=x.w)&&decide ((x.row.length:Int)=wide))&&dS z)=R)) (fun m tm hq bG hI=>?_) (z.length) ⟨0,by simp,(by first|rfl|kernel_rfl|simp),(hR)⟩;obtain⟨j,hj,e5,aF⟩:=hI;have k0:=bG 0 (by kernel_rfl);conv at k0=>rhs;whnf
 rw[<-aR k0];have k1:=bG 1 (by kernel_rfl);conv at k1=>rhs;whnf
 rw[<-aR k1];rw[<-aR e5];clear bG k0 k1 e5;have S:aj hq []:=aj.nil hq;conv=>whnf
 refine ae (fun h1=>?_) (fun h1=>?_)
 ·have bp:j<z.length:=by simpa using h1
  have dw:(z.map Item.enc)[((j:Nat):Int).toNat]?=some (Item.enc z[j]):=by rw[aaa];simp[bp]
  rw[aaf bp,abi]at aF;generalize z[j]=x at dw aF;obtain⟨row,w⟩:=x;simp only at aF;conv=>whnf
  refine⟨_,dw,by omega,rfl,?_⟩;conv=>whnf
  refine ae (fun g0=>?_) (fun g0=>?_)
  ·conv=>whnf
   exact br (by rw[<-aF];have: ¬1<=w:=by simp at g0;omega
                simp[this])
  ·have g0':1<=w:=by simp at g0;omega
   rw[show decide (1<=w)=true by simp[g0'],aay]at aF;conv=>whnf
   refine⟨_,dw,by omega,rfl,?_⟩;conv=>whnf
   refine ae (fun g1=>?_) (fun g1=>?_)
   ·conv=>whnf
    exact br (by rw[<-aF];have: ¬(row.length:Int)=wide:=by simpa using g1
                 simp[this])
   ·have:(row.length:Int)=wide:=by simpa using g1
    rw[show decide ((row.length:Int)=wide)=true by simp[this],aay]at aF;conv=>whnf
    exact⟨m-1,by omega,j+1,by omega,aP j (by omega),aF⟩
 ·have bp:j=z.length:=by
   have: ¬j<z.length:=by simpa using h1
   omega
  subst bp;rw[aal,List.all_nil,aay]at aF;conv=>whnf
  refine⟨_,h2 _,?_⟩;conv=>whnf
  refine ae (fun g1=>?_) (fun g1=>?_)
  ·conv=>whnf
   exact br (by rw[<-aF,g1])
  ·conv=>whnf
   exact br (by rw[<-aF,g1])
theorem TW(hp:cF pr)(a b:Int):dK pr 21 [i64 a,i64 b] (i64 (if a>b then a else b)):=by
 refine ff hp rfl rfl ?_;have S:=aj.nil []
 iterate 4
  all_goals(try(conv=>whnf))
  all_goals(first|(intro iK cp ee bf;replace S:=S.alloc ee bf)|(refine aC (S.row 0 rfl) ?_)|(refine⟨_,rfl,rfl,rfl,.inl ⟨_,S.row 0 rfl,rfl,?_⟩⟩;(conv=>whnf);intro cp bf;replace S:=S.w0 bf)|(refine ae (fun hb=>?_) (fun hb=>?_))|skip)
 all_goals(try(conv=>whnf))
 all_goals exact eJ (by simp_all;try omega)
theorem Ou(hp:cF pr)(f:bz)(ht:f.d.fA<=1048576):dK pr 61 [f.enc] (.bool (fit f.ez&&ni 6 f)):=by
 have h2:=Rl hp 6 f ht (by omega);obtain⟨⟨au,n,aD,cells,a,b,aq,agg,c,ao⟩,l,r,ks⟩:=f;have h1:=Tx hp (.mk au n aD cells a b aq agg c ao) (by rw[jY]at ht;unfold aA.small;omega);refine ff hp rfl rfl ?_;have S:=aj.nil [];conv=>whnf
 intro k1 a1 eg er;replace S:=S.alloc eg er;refine aC (S.row 0 rfl) ?_;conv=>whnf
 refine⟨_,h1 _,?_⟩;conv=>whnf
 refine ae (fun g1=>?_) (fun g1=>?_)
 ·refine aC (S.row 0 rfl) ?_;conv=>whnf
  refine⟨_,h2 _,?_⟩;conv=>whnf
  refine ae (fun g2=>?_) (fun g2=>?_)
  ·conv=>whnf
   exact br (by simp only[bz.ez];rw[g1,g2];rfl)
  ·conv=>whnf
   exact br (by simp only[bz.ez];rw[g1,g2];rfl)
 ·conv=>whnf
  exact br (by simp only[bz.ez];rw[g1];rfl)
theorem nk(v:View):v.d.fA=v.hU.d.fA+(aI.d v.base).fA+(v.aZ.length+bg.fV (v.aZ.map dg.d)):=by
 simp only[View.d,bg.fA,bg.fV,aat];omega
theorem j0{z:List Item}(h:(aI.d z).fA<=1048576):ij z:=by
 simp only[aI.d,bg.fA,aat]at h;refine⟨by simp[dB];omega,fun x hx=>?_⟩;have h2:=eA (f:=Item.d) hx;rw[Item.fA]at h2;simp[dB];omega
theorem lq{ps:List dg}(h:bg.fV (ps.map dg.d)<=1048576): ∀p∈ps,ij p.out:=fun p hp=>by
 have:=eA (f:=dg.d) hp;refine j0 ?_;simp only[dg.d,bg.fA,bg.fV]at this;simp only[aI.d,bg.fA]at this⊢;omega
def eC(lo now wide:Int):Option Int->List dg->Bool
 |_,[]=>true
 |q,p::ps=>(decide (lo<p.dP)&&(decide (p.dP<=now)&&(jN p.out wide&&(match q with|none=>true|some q=>decide (q<p.dP)))))&&eC lo now wide (some p.dP) ps
def yb(fo:Bool)(wide lo now bO:Int)(base:List Item)(aZ:List dg):Bool:=
 fo&&(decide (1<=wide)&&(decide (0<=bO)&&(decide (bO<=now)&&(jN base wide&&(decide (aZ.length<=40)&&eC lo now wide none aZ)))))
def gF(ws:List Int)(now keep:Int)(v:View):Bool:=
 yb (fit v.hU.ez&&ni 6 v.hU) (dY v.hU.ez ws) (if v.bO>keep then v.bO else keep) now v.bO v.base v.aZ
def yc(ps:List dg):Option Int:=ps.getLast?.map dg.dP
theorem zf{z:List dg}{j:Nat}(h:j<z.length):yc (z.take (j+1))=some z[j].dP:=by
 unfold yc;rw[show z.take (j+1)=z.take j++[z[j]] by rw[List.take_add_one];simp[h],List.getLast?_concat];rfl
theorem Rm(hp:cF pr)(v:View)(s:bN)(ht:v.d.fA<=1048576):dK pr 28 [v.enc,s.enc] (.bool (gF s.bc s.now s.keep v)):=by
 rw[nk]at ht;obtain⟨f,bO,base,aZ⟩:=v;obtain⟨bc,aH,aL,now,keep⟩:=s;simp only at ht;have hf:=Ou hp f (by omega);obtain⟨⟨au,n,aD,cells,a,b,aq,agg,c,ao⟩,l,r,ks⟩:=f;have hw:=qd hp (.mk au n aD cells a b aq agg c ao) bc (by rw[jY]at ht;unfold aA.small;omega);have UW:=fun w=>Bq hp base w (j0 (by omega));have sg:=fun(x:dg)(hx:x∈aZ) w=>Bq hp x.out w (lq (by omega) x hx);have TX:=TW hp bO keep;have vD:aZ.length<=1048576:=by omega
 clear ht;unfold gF;simp only[bz.ez]at hf⊢;generalize dY (aA.mk au n aD cells a b aq agg c ao) bc=wide at hw⊢;generalize JJ:(fit (aA.mk au n aD cells a b aq agg c ao)&&ni 6 (bz.mk (aA.mk au n aD cells a b aq agg c ao) l r ks))=fo at hf⊢;clear JJ;generalize(if bO>keep then bO else keep)=lo at TX⊢;generalize hR:yb fo wide lo now bO base aZ=R;unfold yb at hR;refine ff hp rfl rfl ?_;have S:=aj.nil [];conv=>whnf
 intro k1 a1 eg er;replace S:=S.alloc eg er;clear eg er;conv=>whnf
 intro k2 a2 jS jb;replace S:=S.alloc jS jb;clear jS jb;have S0:aj a2 [.row k2 (.box (bN.mk bc aH aL now keep).enc),.row k1 (.box (View.mk (.mk (.mk au n aD cells a b aq agg c ao) l r ks) bO base aZ).enc)]:=S;clear S;have S:=S0;clear S0
 iterate 20
  all_goals(try(conv=>whnf))
  all_goals(first|(intro iK cp ee bf;replace S:=S.alloc ee bf)|(refine aC (S.row 0 rfl) ?_)|(refine aC (S.row 1 rfl) ?_)|(refine⟨_,rfl,rfl,rfl,.inl ⟨_,S.row 0 rfl,rfl,?_⟩⟩;(conv=>whnf);intro cp bf;replace S:=S.w0 bf)|(refine⟨_,rfl,rfl,rfl,.inl ⟨_,S.row 1 rfl,rfl,?_⟩⟩;(conv=>whnf);intro cp bf;replace S:=S.w1 bf)|(refine ae (fun hb=>?_) (fun hb=>?_))|(refine⟨_,hw _,?_⟩)|(refine⟨_,hf _,?_⟩)|(refine⟨_,UW _ _,?_⟩)|skip)
 all_goals(try(conv=>whnf))
 all_goals first
  |exact br (by rw[<-hR];clear hR hf hw UW sg TX S;first|(simp_all;done)|(simp_all;omega)|(simp_all;intros;omega))
  |skip
 all_goals
  have aF:eC lo now wide none aZ=R:=by rw[<-hR];clear hR hf hw UW sg TX S;first|(simp_all;done)|(simp_all;omega)|(simp_all;intros;omega)
  clear hR hf hw UW;refine iv (fun m tm hp=>∃(j:Nat),j+m=aZ.length/\tm 6=i64 (j:Nat)/\aj hp [.row k2 (.box (bN.mk bc aH aL now keep).enc),.row k1 (.box (View.mk (.mk (.mk au n aD cells a b aq agg c ao) l r ks) bO base aZ).enc)]/\(eC lo now wide (yc (aZ.take j)) (aZ.drop j)=R)) (fun m tm hq bG hI=>?_) (aZ.length) ⟨0,by simp,(by first|rfl|kernel_rfl|simp),S,((by simpa[yc]using aF))⟩;obtain⟨j,hj,e6,S2,aF⟩:=hI;have k2:=bG 2 (by kernel_rfl);conv at k2=>rhs;whnf
  rw[<-aR k2];have k3:=bG 3 (by kernel_rfl);conv at k3=>rhs;whnf
  rw[<-aR k3];have k5:=bG 5 (by kernel_rfl);conv at k5=>rhs;whnf
  rw[<-aR k5];rw[<-aR e6];clear bG k2 k3 k5 e6;clear S;have S:=S2;clear S2;conv=>whnf
  have gA:j<4611686018427387904:=by omega
  refine aC (S.row 1 rfl) ?_;conv=>whnf
  refine ae (fun h1=>?_) (fun h1=>?_)
  ·have bp:j<aZ.length:=by simpa using h1
   have dw:(aZ.map dg.enc)[((j:Nat):Int).toNat]?=some (dg.enc aZ[j]):=by rw[aaa];simp[bp]
   have fF:=zf bp;rw[aaf bp]at aF;simp only[eC]at aF;have h2:=sg _ (aac bp) wide
   cases j with
   |zero=>
    have jf:yc (aZ.take 0)=none:=by simp[yc]
    rw[jf]at aF;generalize aZ[0]=x at dw aF fF h2;obtain⟨t,out⟩:=x;simp only at aF fF h2;refine aC (S.row 1 rfl) ?_;conv=>whnf
    refine⟨_,dw,by omega,rfl,?_⟩
    iterate 18
     all_goals(try(conv=>whnf))
     all_goals(first|(intro iK cp ee bf;replace S:=S.alloc ee bf)|(refine aC (S.row 0 rfl) ?_)|(refine aC (S.row 1 rfl) ?_)|(refine aC (S.row 2 rfl) ?_)|(refine⟨_,rfl,rfl,rfl,.inl ⟨_,S.row 0 rfl,rfl,?_⟩⟩;(conv=>whnf);intro cp bf;replace S:=S.w0 bf)|(refine⟨_,rfl,rfl,rfl,.inl ⟨_,S.row 1 rfl,rfl,?_⟩⟩;(conv=>whnf);intro cp bf;replace S:=S.w1 bf)|(refine⟨_,rfl,rfl,rfl,.inl ⟨_,S.row 2 rfl,rfl,?_⟩⟩;(conv=>whnf);intro cp bf;replace S:=S.w2 bf)|(refine ae (fun hb=>?_) (fun hb=>?_))|(refine⟨_,h2 _,?_⟩)|(refine⟨_,TX _,?_⟩)|skip)
    all_goals(try(conv=>whnf))
    all_goals first
     |exact br (by rw[<-aF];clear dw fF h2 sg TX S aF;first|(simp_all;done)|(simp_all;omega)|(simp_all;intros;omega))
     |exact⟨m-1,by omega,1,by omega,aP 0 (by omega),S.drop 0,by rw[fF,<-aF];clear dw fF h2 sg TX S aF;first|(simp_all;done)|(simp_all;omega)|(simp_all;intros;omega)⟩
   |succ i=>
    have jf:=zf (z:=aZ) (j:=i) (by omega);rw[jf]at aF;have hw:IntKind.i64.wrap (((i+1:Nat):Int)-1)=(i:Nat):=by rw[aaC];omega
    have sm:(aZ.map dg.enc)[(IntKind.i64.wrap (((i+1:Nat):Int)-1)).toNat]?=some (dg.enc aZ[i]):=by rw[hw,aaa];simp[show i<aZ.length by omega]
    generalize aZ[i+1]=x at dw aF fF h2;generalize aZ[i]=y at sm aF jf;obtain⟨t,out⟩:=x;obtain⟨t2,afz⟩:=y;simp only at aF fF h2;refine aC (S.row 1 rfl) ?_;conv=>whnf
    refine⟨_,dw,by omega,rfl,?_⟩
    iterate 24
     all_goals(try(conv=>whnf))
     all_goals(first|(refine⟨_,sm,by omega,rfl,?_⟩)|(intro iK cp ee bf;replace S:=S.alloc ee bf)|(refine aC (S.row 0 rfl) ?_)|(refine aC (S.row 1 rfl) ?_)|(refine aC (S.row 2 rfl) ?_)|(refine⟨_,rfl,rfl,rfl,.inl ⟨_,S.row 0 rfl,rfl,?_⟩⟩;(conv=>whnf);intro cp bf;replace S:=S.w0 bf)|(refine⟨_,rfl,rfl,rfl,.inl ⟨_,S.row 1 rfl,rfl,?_⟩⟩;(conv=>whnf);intro cp bf;replace S:=S.w1 bf)|(refine⟨_,rfl,rfl,rfl,.inl ⟨_,S.row 2 rfl,rfl,?_⟩⟩;(conv=>whnf);intro cp bf;replace S:=S.w2 bf)|(refine ae (fun hb=>?_) (fun hb=>?_))|(refine⟨_,h2 _,?_⟩)|(refine⟨_,TX _,?_⟩)|skip)
    all_goals(try(conv=>whnf))
    all_goals first
     |exact br (by rw[<-aF];clear dw sm fF h2 sg TX S aF hw jf;first|(simp_all;done)|(simp_all;omega)|(simp_all;intros;omega))
     |exact⟨m-1,by omega,i+1+1,by omega,aP (i+1) gA,S.drop 0,by rw[fF,<-aF];clear dw sm fF h2 sg TX S aF hw jf;first|(simp_all;done)|(simp_all;omega)|(simp_all;intros;omega)⟩
  ·have bp:j=aZ.length:=by
    have: ¬j<aZ.length:=by simpa using h1
    omega
   subst bp;rw[aal]at aF;conv=>whnf
   exact br (by rw[<-aF];simp[eC])
theorem eK(s:bN):s.d.fA=s.bc.length+(bX.d s.aH).fA+(s.aL.length+bg.fV (s.aL.map View.d)):=by
 simp only[bN.d,iR.d,bg.fA,bg.fV,aat,Il];omega
def jt:List Int->List (List Item)->Bool
 |w::ws,t::ts=>(decide (1<=w)&&(decide (w<=6)&&td t w))&&jt ws ts
 |_,_=>true
theorem Lb{ws:List Int}{ts:List (List Item)}{j:Nat}(h1:j<ws.length)(h2:j<ts.length):jt (ws.drop j) (ts.drop j)=((decide (1<=ws[j])&&(decide (ws[j]<=6)&&td ts[j] ws[j]))&&jt (ws.drop (j+1)) (ts.drop (j+1))):=by
 rw[aaf h1,aaf h2,jt]
def dz(s:bN):Bool:=
 decide (s.bc.length<=3)&&(decide (s.aH.length=s.bc.length)&&(decide (s.aL.length<=3)&&(decide (0<=s.keep)&&(decide (s.keep<=s.now)&&(decide (s.now<=40)&&(jt s.bc s.aH&&s.aL.all (gF s.bc s.now s.keep)))))))
theorem pg{l:List (List Item)}(h:(bX.d l).fA<=1048576): ∀z∈l,ij z:=(eV h).2
theorem mQ(hp:cF pr)(s:bN)(ht:s.d.fA<=1048576):dK pr 9 [s.enc] (.bool (dz s)):=by
 rw[eK]at ht;have uh: ∀v∈s.aL,dK pr 28 [v.enc,s.enc] (.bool (gF s.bc s.now s.keep v)):=fun v hv=>Rm hp v s (by have:=eA (f:=View.d) hv;omega);obtain⟨bc,aH,aL,now,keep⟩:=s;simp only at ht uh;have Ov:=fun(z:List Item)(hz:z∈aH) w=>TV hp z w (pg (by omega) z hz);have CI:aL.length<=1048576:=by omega
 clear ht;generalize hR:dz ⟨bc,aH,aL,now,keep⟩=R;simp only[dz]at hR;refine ff hp rfl rfl ?_;have S:=aj.nil [];conv=>whnf
 intro k1 a1 eg er;replace S:=S.alloc eg er;clear eg er;have S0:aj a1 [.row k1 (.box (bN.mk bc aH aL now keep).enc)]:=S;clear S;have S:=S0;clear S0
 iterate 20
  all_goals(try(conv=>whnf))
  all_goals(first|(intro iK cp ee bf;replace S:=S.alloc ee bf)|(refine aC (S.row 0 rfl) ?_)|(refine⟨_,rfl,rfl,rfl,.inl ⟨_,S.row 0 rfl,rfl,?_⟩⟩;(conv=>whnf);intro cp bf;replace S:=S.w0 bf)|(refine ae (fun hb=>?_) (fun hb=>?_))|skip)
 all_goals(try(conv=>whnf))
 all_goals first
  |exact br (by rw[<-hR];clear hR Ov uh S;first|(simp_all;done)|(simp_all;omega)|(simp_all;intros;omega))
  |skip
 all_goals
  have hlen:aH.length=bc.length:=by clear hR Ov uh S;simp_all;omega
  have hw3:bc.length<=3:=by clear hR Ov uh S;simp_all;omega
  have aF:(jt bc aH&&aL.all (gF bc now keep))=R:=by rw[<-hR];clear hR Ov uh S;first|(simp_all;done)|(simp_all;omega)|(simp_all;intros;omega)
  clear hR;refine iv (fun m tm hp=>∃(j:Nat),j+m=bc.length/\tm 3=i64 (j:Nat)/\aj hp [.row k1 (.box (bN.mk bc aH aL now keep).enc)]/\((jt (bc.drop j) (aH.drop j)&&aL.all (gF bc now keep))=R)) (fun m tm hq bG hI=>?_) (bc.length) ⟨0,by simp,(by first|rfl|kernel_rfl|simp),S,(aF)⟩;obtain⟨j,hj,e3,S2,aF⟩:=hI;have k1:=bG 1 (by kernel_rfl);conv at k1=>rhs;whnf
  rw[<-aR k1];rw[<-aR e3];clear bG k1 e3;clear S;have S:=S2;clear S2;refine aC (S.row 0 rfl) ?_;conv=>whnf
  refine ae (fun h1=>?_) (fun h1=>?_)
  ·have bp:j<bc.length:=by simpa using h1
   have dw:(bc.map i64)[((j:Nat):Int).toNat]?=some (i64 bc[j]):=by rw[aaa];simp[bp]
   have Xv:j<aH.length:=by omega
   have SJ:(aH.map aI.enc)[((j:Nat):Int).toNat]?=some (aI.enc aH[j]):=by rw[aaa];simp[Xv]
   rw[Lb bp Xv]at aF;have h2:=Ov _ (aac Xv) bc[j];generalize bc[j]=w at dw aF h2;generalize aH[j]=z at SJ aF h2
   iterate 12
    all_goals(try(conv=>whnf))
    all_goals(first|(refine⟨_,dw,by omega,rfl,?_⟩)|(refine⟨_,SJ,by omega,rfl,?_⟩)|(intro iK cp ee bf;replace S:=S.alloc ee bf)|(refine aC (S.row 0 rfl) ?_)|(refine⟨_,rfl,rfl,rfl,.inl ⟨_,S.row 0 rfl,rfl,?_⟩⟩;(conv=>whnf);intro cp bf;replace S:=S.w0 bf)|(refine ae (fun hb=>?_) (fun hb=>?_))|(refine⟨_,h2 _,?_⟩)|skip)
   all_goals(try(conv=>whnf))
   all_goals first
    |exact br (by rw[<-aF];clear dw SJ h2 Ov uh S aF;first|(simp_all;done)|(simp_all;omega)|(simp_all;intros;omega))
    |exact⟨m-1,by omega,j+1,by omega,aP j (by omega),S,by rw[<-aF];clear dw SJ h2 Ov uh S aF;first|(simp_all;done)|(simp_all;omega)|(simp_all;intros;omega)⟩
  ·have bp:j=bc.length:=by
    have: ¬j<bc.length:=by simpa using h1
    omega
   have dR:aL.all (gF bc now keep)=R:=by
    rw[<-aF,bp,aal];simp[jt]
   clear aF h1 hj bp;conv=>whnf
   refine iv (fun m tm hp=>∃(j:Nat),j+m=aL.length/\tm 4=i64 (j:Nat)/\aj hp [.row k1 (.box (bN.mk bc aH aL now keep).enc)]/\((aL.drop j).all (gF bc now keep)=R)) (fun m tm hq bG hI=>?_) (aL.length) ⟨0,by simp,(by first|rfl|kernel_rfl|simp),S,(dR)⟩;obtain⟨j,hj,e4,S2,aF⟩:=hI;have k1:=bG 1 (by kernel_rfl);conv at k1=>rhs;whnf
   rw[<-aR k1];rw[<-aR e4];clear bG k1 e4;clear S;have S:=S2;clear S2;refine aC (S.row 0 rfl) ?_;conv=>whnf
   refine ae (fun h1=>?_) (fun h1=>?_)
   ·have bp:j<aL.length:=by simpa using h1
    have dw:(aL.map View.enc)[((j:Nat):Int).toNat]?=some (View.enc aL[j]):=by rw[aaa];simp[bp]
    rw[aaf bp,abi]at aF;have h2:=uh _ (aac bp);generalize aL[j]=v at dw aF h2;generalize gF bc now keep v=b at aF h2;obtain⟨⟨⟨au,n,aD,cells,a,b',aq,agg,c,ao⟩,l,r,ks⟩,bO,base,aZ⟩:=v;refine aC (S.row 0 rfl) ?_;conv=>whnf
    refine⟨_,dw,by omega,rfl,?_⟩;refine aC (S.row 0 rfl) ?_;conv=>whnf
    refine⟨_,h2 _,?_⟩;conv=>whnf
    refine ae (fun g1=>?_) (fun g1=>?_)
    ·rw[g1,aay]at aF;conv=>whnf
     exact⟨m-1,by omega,j+1,by omega,aP j (by omega),S,aF⟩
    ·conv=>whnf
     exact br (by rw[<-aF,g1];rfl)
   ·have bp:j=aL.length:=by
     have: ¬j<aL.length:=by simpa using h1
     omega
    subst bp;rw[aal]at aF;conv=>whnf
    exact br (by rw[<-aF];rfl)
end Go.Proofs.YtfepbikckfehlaaGreat
set_option maxHeartbeats 4000000
namespace Go.Proofs.YtfepbikckfehlaaGreat
open Go Go.Am
variable{pr:bW}(hp:cF pr)
set_option maxRecDepth 100000
theorem _root_.Go.Am.aj.nQ{h:aG}{L:List Chunk}(n:Nat)(S:aj h L):aj h (L.drop n):=by
 induction n generalizing L with
 |zero=>rw[List.drop_zero];exact S
 |succ n ih=>
  cases L with
  |nil=>rw[List.drop_nil];exact S
  |cons c L=>rw[List.drop_succ_cons];exact ih (S.drop 0)
theorem cZ.MO{h:aG}: ∀{ds:List bg}{vs:List af}{F:List Nat},cZ h ds vs F-> ∀(i:Nat) d,ds[i]?=some d-> ∃v G,vs[i]?=some v/\cq h d v G
 | [],vs,F,hp,i,d,hd=>by simp at hd
 |p::ps,vs,F,hp,i,d,hd=>by
  simp only[cZ]at hp;obtain⟨v,fx,F1,F2,rfl,rfl,h1,h2⟩:=hp
  cases i with
  |zero=>simp at hd;subst hd;exact⟨v,F1,rfl,h1⟩
  |succ i=>simp at hd;exact cZ.MO h2 i d hd
def atD(dp:bg)(aZ:List dg):Prop:=dp= .v (.sl (aZ.map dg.enc))∨dp= .s 2 (aZ.map dg.d)
theorem Ow{h:aG}{dp:bg}{aZ:List dg}{P:af}{F:List Nat}(hd:atD dp aZ)(ho:cq h dp P F):(P= .nil/\aZ.length=0)∨P= .sl (aZ.map dg.enc)∨ ∃id vs,P= .own id 0 aZ.length/\h[id]?=some (.arr 2 vs)/\ ∀(i:Nat) p,aZ[i]?=some p-> ∃O G,vs[i]?=some (.agg [i64 p.dP,O])/\cq h (aI.d p.out) O G:=by
 rcases hd with rfl|rfl
 ·simp only[cq]at ho;exact .inr (.inl ho.1)
 ·simp only[cq]at ho;rcases ho with⟨h1,_,rfl|rfl⟩|⟨id,vs,Fs,rfl,h5,h6,_⟩
  ·exact .inl ⟨rfl,by simpa using h1⟩
  ·have:aZ=[]:=by simpa using h1
   subst this;exact .inr (.inl rfl)
  ·refine .inr (.inr ⟨id,vs,by simp,h5,fun i p hi=>?_⟩);obtain⟨v,G,g1,g2⟩:=cZ.MO h6 i p.d (by simp[hi]);obtain⟨vv,rfl,hu⟩:=iF.1 g2;obtain⟨w1,rfl,Wr⟩:=pc.1 hu;obtain⟨O,w2,G1,G2,rfl,rfl,gO,DC⟩:=l6.1 Wr;obtain⟨rfl,rfl⟩:=fO.1 DC;exact⟨O,G1,g1,gO⟩
theorem Rn(hp:cF pr){au n:Int}{aD:Test}{a b:Int}{agg col:Int}{C K0 D0 L R KS B P mo:af}{bO dP:Int}{base more:List Item}{aZ:List dg}{dp:bg}{FP:List Nat}{h:aG}{Q:List Chunk}(hd:atD dp aZ)
  (hb:dS base=true) (ho: ∀p∈aZ,dS p.out=true) (hl:aZ.length<=1000000) (hm:dS more=true) (S:aj h (.dL dp P FP::Q)) (hB: ∀h',aj h' (.dL dp P FP::Q)->Am.snap h' B=some (aI.enc base)) (hM: ∀h',aj h' (.dL dp P FP::Q)->Am.snap h' mo=some (aI.enc more)) {K:ef->Prop}
  (hK: ∀v F h',aj h' (.jA 2 ((dt (mP dP base aZ) more).map Item.d) v F:: .dL dp P FP::Q)->K (.ret v h')):
  ∃r,cj (dZ pr) (call (dZ pr)) 22 [.agg (bL au n aD C a b K0 agg col D0 [L,R,KS,i64 bO,B,P]),i64 dP,mo] h=some r/\K r:=by
   have h1:=l7 hp base (dC hb);have hml:more.length<=100:=(dA hm).1;rw[nN rfl];refine dJ (hp.out _ rfl) ?_;conv=>whnf
   intro k1 a1 eg er;replace S:=S.alloc eg er;refine aC (S.row 0 rfl) ?_;conv=>whnf
   refine dG S h1 rfl (bu (hB _ (S.drop 0)) (dM _)) fun v1 q1 F1 S1=>?_;replace S:=S1;clear S1;have wJ:ij base/\base.length<=100+100*0:=⟨dC hb,by have:=(dA hb).1;omega⟩;conv=>whnf
   refine dQ (fun m tm hp=>∃(j:Nat)(z:List Item)(D:af)(F:List Nat),j+m=aZ.length/\tm 7=D/\tm 8=i64 (j:Nat)/\aj hp (.jA 2 (z.map Item.d) D F:: .row k1 (.box (.agg (bL au n aD C a b K0 agg col D0 [L,R,KS,i64 bO,B,P]))):: .dL dp P FP::Q)/\(ij z/\z.length<=100+100*j)/\(mP dP base aZ=mP dP z (aZ.drop j))) (fun m tm hq bG hI=>?_) (aZ.length) ⟨0,base,v1,F1,by simp,rfl,rfl,S,(wJ),(rfl)⟩;obtain⟨j,z,D,F,hj,e7,e8,S2,hz,aF⟩:=hI;have k1:=bG 1 (by kernel_rfl);conv at k1=>rhs;whnf
   have k2:=bG 2 (by kernel_rfl);conv at k2=>rhs;whnf
   have k3:=bG 3 (by kernel_rfl);conv at k3=>rhs;whnf
   refine⟨[(1,_),(2,_),(3,_),(7,_),(8,_)],⟨k1,k2,k3,e7,e8,trivial⟩,?_⟩;clear bG k1 k2 k3 e7 e8;replace S:=S2;clear S2;conv=>whnf
   have gA:j<4611686018427387904:=by omega
   have oG:Am.snap hq D=some (aI.enc z):=aI.iT (show sv _ _ _ _ _ from S.get 0 rfl).1;refine aC (S.row 1 rfl) ?_;conv=>whnf
   rcases Ow hd (S.get 2 rfl)with⟨rfl,hn⟩|rfl|⟨id,vs,rfl,eQ,kD⟩
   ·have bp:j=aZ.length:=by omega
    subst bp;conv=>whnf
    rw[aal]at aF;have YZ:mP dP base aZ=z:=aF;have h2:=l9 hp z more hz.1 (dC hm) (by simp[dB];omega);rw[<-YZ]at h2 oG;conv=>whnf
    refine dG S h2 rfl (bu oG (bu (hM _ (S.nQ 2)) (dM _))) fun v' h' F' S1=>?_;conv=>whnf
    exact⟨_,rfl,hK _ _ _ (S1.drop 1|>.drop 1)⟩
   ·conv=>whnf
    refine ae (fun h1=>?_) (fun h1=>?_)
    ·have bp:j<aZ.length:=by simpa using h1
     have dw:(aZ.map dg.enc)[((j:Nat):Int).toNat]?=some (dg.enc aZ[j]):=by rw[aaa];simp[bp]
     rw[aaf bp]at aF;have hx:=ho _ (aac bp);skip;generalize aZ[j]=x at dw aF hx;obtain⟨t,out⟩:=x;have yQ:out.length<=100:=(dA hx).1;have xD:(dt z out).length<=z.length+out.length/\ ∀x∈dt z out,x.row.length<=dB:=gx hz.1.2 (dC hx).2;have h2:=l9 hp z out hz.1 (dC hx) (by simp[dB];omega);simp only[mP]at aF;refine aC (S.row 1 rfl) ?_;conv=>whnf
     refine⟨_,dw,by omega,rfl,?_⟩;conv=>whnf
     refine ae (fun h3=>?_) (fun h3=>?_)
     ·rw[if_pos (by simpa using h3)]at aF;refine aC (S.row 1 rfl) ?_;conv=>whnf
      refine⟨_,dw,by omega,rfl,?_⟩;conv=>whnf
      refine dG S h2 rfl (bu oG (bu rfl (dM _))) fun v' h' F' S1=>?_;have S2:=S1.drop 1;conv=>whnf
      exact⟨m-1,by omega,j+1,dt z out,v',F',by omega,rfl,aP j gA,S2,⟨⟨by have:=xD.1;simp[dB];omega,xD.2⟩,by have:=xD.1;omega⟩,aF⟩
     ·rw[if_neg (by simpa using h3)]at aF;conv=>whnf
      exact⟨m-1,by omega,j+1,z,D,F,by omega,rfl,aP j gA,S,⟨hz.1,by omega⟩,aF⟩
    ·have bp:j=aZ.length:=by
      have: ¬j<aZ.length:=by simpa using h1
      omega
     subst bp;rw[aal]at aF;have YZ:mP dP base aZ=z:=aF;have h2:=l9 hp z more hz.1 (dC hm) (by simp[dB];omega);rw[<-YZ]at h2 oG;conv=>whnf
     refine dG S h2 rfl (bu oG (bu (hM _ (S.nQ 2)) (dM _))) fun v' h' F' S1=>?_;conv=>whnf
     exact⟨_,rfl,hK _ _ _ (S1.drop 1|>.drop 1)⟩
   ·conv=>whnf
    refine ae (fun h1=>?_) (fun h1=>?_)
    ·have bp:j<aZ.length:=by simpa using h1
     have dw:True:=trivial;rw[aaf bp]at aF;have hx:=ho _ (aac bp);replace kD:=kD j _ (aab bp);generalize aZ[j]=x at dw aF hx kD;obtain⟨t,out⟩:=x;obtain⟨O,GO,abN,gO⟩:=kD;have TY:vs[0+((j:Nat):Int).toNat]?=some (.agg [i64 t,O]):=by rw[aaK,aaa];exact abN
     have yQ:out.length<=100:=(dA hx).1;have xD:(dt z out).length<=z.length+out.length/\ ∀x∈dt z out,x.row.length<=dB:=gx hz.1.2 (dC hx).2;have h2:=l9 hp z out hz.1 (dC hx) (by simp[dB];omega);simp only[mP]at aF;refine aC (S.row 1 rfl) ?_;conv=>whnf
     refine⟨vs,eQ,⟨by omega,by omega⟩,?_⟩;conv=>whnf
     refine .inr ⟨_,_,_,eQ,TY,?_⟩;conv=>whnf
     refine ae (fun h3=>?_) (fun h3=>?_)
     ·rw[if_pos (by simpa using h3)]at aF;refine aC (S.row 1 rfl) ?_;conv=>whnf
      refine⟨vs,eQ,⟨by omega,by omega⟩,?_⟩;conv=>whnf
      refine .inr ⟨_,_,_,eQ,TY,?_⟩;have hso:Am.snap hq O=some (aI.enc out):=aI.iT gO;conv=>whnf
      refine dG S h2 rfl (bu oG (bu hso (dM _))) fun v' h' F' S1=>?_;have S2:=S1.drop 1;conv=>whnf
      exact⟨m-1,by omega,j+1,dt z out,v',F',by omega,rfl,aP j gA,S2,⟨⟨by have:=xD.1;simp[dB];omega,xD.2⟩,by have:=xD.1;omega⟩,aF⟩
     ·rw[if_neg (by simpa using h3)]at aF;conv=>whnf
      exact⟨m-1,by omega,j+1,z,D,F,by omega,rfl,aP j gA,S,⟨hz.1,by omega⟩,aF⟩
    ·have bp:j=aZ.length:=by simp at h1;omega
     subst bp;rw[aal]at aF;have YZ:mP dP base aZ=z:=aF;have h2:=l9 hp z more hz.1 (dC hm) (by simp[dB];omega);rw[<-YZ]at h2 oG;conv=>whnf
     refine dG S h2 rfl (bu oG (bu (hM _ (S.nQ 2)) (dM _))) fun v' h' F' S1=>?_;conv=>whnf
     exact⟨_,rfl,hK _ _ _ (S1.drop 1|>.drop 1)⟩
end Go.Proofs.YtfepbikckfehlaaGreat
set_option maxHeartbeats 4000000
namespace Go.Proofs.YtfepbikckfehlaaGreat
open Go Go.Am
variable{pr:bW}(hp:cF pr)(hs:DE pr)
set_option maxRecDepth 100000
theorem wQ(dP:Int): ∀(ps:List dg)(z:List Item),(∀p∈ps,dS p.out=true)->(∀x∈z,x.row.length<=dB)->(mP dP z ps).length<=z.length+100*ps.length/\ ∀x∈mP dP z ps,x.row.length<=dB
 | [],z,_,hz=>⟨by simp[mP],hz⟩
 |p::ps,z,hp,hz=>by
  have h1:=(dA (hp p (by simp))).1;have h2:=gx hz (dC (hp p (by simp))).2;simp only[mP,aak];split
  ·obtain⟨g1,g2⟩:=wQ dP ps _ (fun q hq=>hp q (by simp[hq])) h2.2;exact⟨by omega,g2⟩
  ·obtain⟨g1,g2⟩:=wQ dP ps _ (fun q hq=>hp q (by simp[hq])) hz;exact⟨by omega,g2⟩
theorem te{lo now wide:Int}: ∀{ps:List dg}{q:Option Int},eC lo now wide q ps=true-> ∀p∈ps,jN p.out wide=true
 | [],_,_,p,hp=>by simp at hp
 |x::xs,q,h,p,hp=>by
  simp only[eC,xz]at h;rcases aaz.1 hp with rfl|hp
  ·exact h.1.2.2.1
  ·exact te h.2 p hp
theorem Br{z:List Item}{w:Int}(h:jN z w=true):dS z=true:=by
 simp only[jN,xz]at h;exact h.2
theorem tW{ws:List Int}{now keep:Int}{v:View}(h:gF ws now keep v=true):dS v.base=true/\(∀p∈v.aZ,dS p.out=true)/\v.aZ.length<=40:=by
 simp only[gF,yb,xz,decide_eq_true_iff]at h;exact⟨Br h.2.2.2.2.1,fun p hp=>Br (te h.2.2.2.2.2.2 p hp),h.2.2.2.2.2.1⟩
theorem vi{s:bN}(h:dz s=true): ∀v∈s.aL,gF s.bc s.now s.keep v=true:=by
 simp only[dz,xz,aaj]at h;exact h.2.2.2.2.2.2.2
def MP(s:bN)(view dP:Int):List Item×Int:=
 if !dz s then([],6)
 else if decide (view<0)||(decide (view>=s.aL.length)||decide (dP>s.now))then([],1)
 else match s.aL[view.toNat]? with
  |none=>([],1)
  |some v=>if decide (dP<(if s.keep>v.bO then s.keep else v.bO))then([],4)
   else if dS (mP dP v.base v.aZ)then(mP dP v.base v.aZ,0)else([],5)
end Go.Proofs.YtfepbikckfehlaaGreat

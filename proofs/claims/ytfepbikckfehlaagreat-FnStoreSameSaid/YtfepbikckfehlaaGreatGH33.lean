/- The last two runs merged, of frozen ones: the reference's. -/
import Derived.Test.YtfepbikckfehlaaGreatGH32
import Derived.Test.YtfepbikckfehlaaGreatGH23
set_option linter.unusedVariables false
set_option linter.unusedSimpArgs false
set_option maxHeartbeats 4000000
namespace Go.Proofs.YtfepbikckfehlaaGreat
open Go Go.Am
variable{pr:bW}(hp:cF pr)
set_option maxRecDepth 100000
theorem RC{b:List Item}: ∀{a:List Item},∀x∈dt a b,∃y,(y∈a∨y∈b)/\x.row=y.row:=by
 induction b with
 |nil=>intro a x hx;exact⟨x,.inl hx,rfl⟩
 |cons c b ih=>
  intro a x hx;obtain⟨y,hy,e⟩:=ih (a:=hY a c.row c.w) x hx;rcases hy with hy|hy
  ·rcases qM y hy with h|⟨u,hu,h⟩
   ·exact⟨c,.inr (by simp),e.trans h⟩
   ·exact⟨u,.inl hu,e.trans h⟩
  ·exact⟨y,.inr (by simp[hy]),e⟩
def Wx(d:List Item)(aq r:List Int):Bool:=d.any fun x=>fL (keyOf x.row aq) (keyOf r aq)
theorem ON{α:Type}(Q:α->Bool){z:List α}{j:Nat}(h:j<z.length):(z.take (j+1)).any Q=((z.take j).any Q||Q z[j]):=by
 rw[dX h,List.any_append];simp
theorem Wy(hp:cF pr)(d:List Item)(aq r:List Int)(hd:d.length<=dB)(hl:aq.length<=100)(hk: ∀x∈d,∀k∈aq,0<=k/\k<x.row.length)(hr: ∀k∈aq,0<=k/\k<r.length):
  dK pr 168 [aI.enc d,.sl (aq.map i64),.sl (r.map i64)] (.bool (Wx d aq r)):=by
   have h2:=z5 hp r aq hr hl;have aQ:Wx d aq r=Wx d aq r:=rfl;conv at aQ=>rhs;unfold Wx
   generalize Wx d aq r=res at aQ⊢;refine kz hp rfl rfl ?_;have S:=aj.nil [];conv=>whnf
   refine dQ (fun m tm hp=>∃(j:Nat),j+m=d.length/\tm 7=i64 (j:Nat)/\((d.take j).any (fun x=>fL (keyOf x.row aq) (keyOf r aq))=false)) (fun m tm hq bG hI=>?_) (d.length) ⟨0,by simp,rfl,(rfl)⟩;obtain⟨j,hj,e7,aF⟩:=hI;have k0:=bG 0 (by kernel_rfl);conv at k0=>rhs;whnf
   have k1:=bG 1 (by kernel_rfl);conv at k1=>rhs;whnf
   have k2:=bG 2 (by kernel_rfl);conv at k2=>rhs;whnf
   refine⟨[(0,_),(1,_),(2,_),(7,_)],⟨k0,k1,k2,e7,trivial⟩,?_⟩;clear bG k0 k1 k2 e7;have S:aj hq []:=aj.nil hq;conv=>whnf
   have gA:j<4611686018427387904:=by simp[dB]at hd;omega
   refine ae (fun h1=>?_) (fun h1=>?_)
   ·have bp:j<d.length:=by simpa using h1
    have dw:(d.map Item.enc)[((j:Nat):Int).toNat]?=some (Item.enc d[j]):=by rw[aaa];simp[bp]
    have dN:=ON (fun x:Item=>fL (keyOf x.row aq) (keyOf r aq)) bp;have Wz:fL (keyOf d[j].row aq) (keyOf r aq)=true->res=true:=fun h=>by rw[aQ,List.any_eq_true];exact⟨_,aac bp,h⟩
    have NW:=z5 hp d[j].row aq (hk _ (aac bp)) hl;generalize d[j]=x at dw dN Wz NW;obtain⟨row,w⟩:=x;simp only at dN Wz NW;rw[aF,Bool.false_or]at dN;have pY:=pe hp (keyOf row aq) (keyOf r aq) (by simp[keyOf,dB];omega) (by simp[keyOf,dB];omega);conv=>whnf
    refine⟨_,dw,by omega,rfl,?_⟩;conv=>whnf
    refine dG S NW rfl rfl fun A q1 F1 S1=>?_;conv=>whnf
    refine dG S1 h2 rfl rfl fun B q2 F2 S2=>?_;conv=>whnf
    have hq:=pY.here (args:=[A,B]) (lj (wY (S2.drop 0)) (wY S2)) rfl rfl;refine⟨_,hq,?_⟩;clear hq;conv=>whnf
    refine ae (fun g1=>?_) (fun g1=>?_)
    ·conv=>whnf
     exact br (Wz g1).symm
    ·conv=>whnf
     exact⟨m-1,by omega,j+1,by omega,aP j gA,by rw[dN];exact g1⟩
   ·have bp:j=d.length:=by
     have: ¬j<d.length:=by simpa using h1
     omega
    subst bp;rw[aar]at aF;conv=>whnf
    exact br (by rw[aQ,aF])
def qS(z d:List Item)(aq:List Int):List Item:=z.filter fun x=>Wx d aq x.row
theorem IK(hp:cF pr)(z d:List Item)(aq:List Int)(hz:ij z)(hd:d.length<=dB)(hl:aq.length<=100)(hk: ∀x∈d,∀k∈aq,0<=k/\k<x.row.length)(hr: ∀x∈z,∀k∈aq,0<=k/\k<x.row.length):
  u0 pr 160 [aI.enc z,aI.enc d,.sl (aq.map i64)] 2 ((qS z d aq).map Item.d):=by
   have Ge:=hz.1;refine s9 hp rfl ?_;have S:=aj.nil [];conv=>whnf
   replace S:=aj.lJ 2 S;refine dQ (fun m tm hp=>∃(j:Nat)(D:af)(F:List Nat),j+m=z.length/\tm 7=D/\tm 8=i64 (j:Nat)/\aj hp [.jA 2 ((qS (z.take j) d aq).map Item.d) D F]) (fun m tm hq bG hI=>?_) (z.length) ⟨0,.nil,[],by simp,rfl,rfl,S⟩;obtain⟨j,D,F,hj,e7,e8,S2⟩:=hI;have k0:=bG 0 (by kernel_rfl);conv at k0=>rhs;whnf
   have k1:=bG 1 (by kernel_rfl);conv at k1=>rhs;whnf
   have k2:=bG 2 (by kernel_rfl);conv at k2=>rhs;whnf
   refine⟨[(0,_),(1,_),(2,_),(7,_),(8,_)],⟨k0,k1,k2,e7,e8,trivial⟩,?_⟩;clear bG k0 k1 k2 e7 e8;replace S:=S2;clear S2;conv=>whnf
   have gA:j<4611686018427387904:=by simp[dB]at Ge;omega
   refine ae (fun h1=>?_) (fun h1=>?_)
   ·have bp:j<z.length:=by simpa using h1
    have dw:(z.map Item.enc)[((j:Nat):Int).toNat]?=some (Item.enc z[j]):=by rw[aaa];simp[bp]
    have dN:qS (z.take (j+1)) d aq=if Wx d aq z[j].row then qS (z.take j) d aq++[z[j]]else qS (z.take j) d aq:=rQ _ bp
    have hlen:(qS (z.take j) d aq).length<=z.length:=aa3 (abH _ _) (by simp;omega);have UC:=Wy hp d aq z[j].row hd hl hk (hr _ (aac bp));have eZ:=qL hp z[j].row (hz.2 _ (aac bp));generalize z[j]=x at dw dN UC eZ;obtain⟨row,w⟩:=x;simp only at dN UC eZ;conv=>whnf
    refine⟨_,dw,by omega,rfl,?_⟩;conv=>whnf
    refine⟨_,UC _,?_⟩;conv=>whnf
    refine ae (fun g1=>?_) (fun g1=>?_)
    ·rw[if_pos g1]at dN;conv=>whnf
     refine⟨_,dw,by omega,rfl,?_⟩;conv=>whnf
     refine fp S eZ rfl rfl fun A q1 F1 o1 S1=>?_;replace S:=S1;clear S1;conv=>whnf
     refine⟨_,dw,by omega,rfl,?_⟩;conv=>whnf
     refine ep o1.cell.1 ?_;conv=>whnf
     intro pI pJ dT dU;replace S:=S.alloc dT dU;conv=>whnf
     refine⟨trivial,?_⟩;conv=>whnf
     refine⟨[_],bT (S.row 0 rfl),fi rfl (bM o1.cell.2 rfl),?_⟩;replace S:=S.drop 0;dsimp only[List.eraseIdx]at S;replace S:=(rH (w:=w) S).swap;refine lp S (by simp[bB,dB]at*;omega) fun k_ h2 F2 S2=>?_;conv=>whnf
     exact⟨m-1,by omega,j+1,_,_,by omega,rfl,aP j gA,by rw[dN,aaD];exact S2⟩
    ·rw[if_neg (by rw[g1];simp)]at dN;conv=>whnf
     exact⟨m-1,by omega,j+1,_,_,by omega,rfl,aP j gA,by rw[dN];exact S⟩
   ·have bp:j=z.length:=by
     have: ¬j<z.length:=by simpa using h1
     omega
    subst bp;rw[aar]at S;conv=>whnf
    exact⟨_,rfl,_,_,_,rfl,S.get 0 rfl,(S.get' 0 _ rfl).2⟩
def iy(z d:List Item)(aq:List Int)(agg c:Int):Option (List Item):=match np z d with
 |none=>none
 |some now=>if eU aq 6&&(wX z aq c&&wX d aq c)then match mn (qS z d aq) aq agg c,mn (qS now d aq) aq agg c with
  |some a,some b=>qf (pt b a)
  |_,_=>none
  else none
theorem RE{z d now:List Item}(h:np z d=some now):dS z=true/\dS d=true/\dS now=true/\now=dt z d:=by
 unfold np at h;split at h
 ·rename_i g;simp only[xz]at g;unfold qf at h;split at h
  ·cases h;exact⟨g.1,g.2,by assumption,rfl⟩
  ·cases h
 ·cases h
theorem RF{z w:List Item}(h:qf z=some w):dS w=true:=by
 unfold qf at h;split at h
 ·cases h;assumption
 ·cases h
theorem DW{z w:List Item}{aq:List Int}{agg c:Int}(h:mn z aq agg c=some w):dS w=true:=by
 unfold mn at h;split at h
 ·exact RF h
 ·cases h
theorem IL{z:List Item}{aq:List Int}{c:Int}(h:wX z aq c=true): ∀x∈z,∀k∈aq,0<=k/\k<x.row.length:=fun x hx=>by
 have:=aaj.1 h x hx;simp only[xz]at this;exact(tZ this.1).1
theorem DX{z d:List Item}{aq:List Int}(hz:ij z):ij (qS z d aq):=⟨aa3 (abH _ _) hz.1,fun x hx=>hz.2 x (List.mem_filter.1 hx).1⟩
theorem CO(hp:cF pr)(z d:List Item)(aq:List Int)(agg c:Int)(hz:ij z)(hd:ij d)(sd:aq.length<=1048576):
  nc pr 149 [aI.enc z,aI.enc d,.sl (aq.map i64),i64 agg,i64 c] [aI.d (pQ (iy z d aq agg c)).1,.b (pQ (iy z d aq agg c)).2]:=by
   have h1:=Fq hp z d hz hd;have h2:=m9 hp aq 6 sd;have h3:=BD hp z aq c hz.1 sd;have h4:=BD hp d aq c hd.1 sd;have ZW:=@RE z d;have aQ:iy z d aq agg c=iy z d aq agg c:=rfl;conv at aQ=>rhs;unfold iy
   generalize iy z d aq agg c=res at aQ⊢;refine gT hp rfl ?_;have S:=aj.nil [];conv=>whnf
   refine iG S h1 rfl rfl fun vs q F1 S1=>?_;obtain⟨v1,F2,rfl,S2⟩:=aj.lC S1;clear S S1;have S:=S2;clear S2 h1;rcases hx:np z d with _|now
   ·rw[hx]at aQ S;subst aQ;conv=>whnf
    exact⟨_,rfl,_,_,_,rfl,kJ _⟩
   rw[hx]at aQ S;obtain⟨o1,o2,o3,o4⟩:=ZW hx;simp only at aQ;conv=>whnf
   refine⟨_,h2 _,?_⟩;conv=>whnf
   refine ae (fun g1=>?_) (fun g1=>?_)
   rotate_left
   ·have jk:res=none:=by rw[aQ,if_neg];simp[g1]
    subst jk;conv=>whnf
    exact⟨_,rfl,_,_,_,rfl,kJ _⟩
   conv=>whnf
   refine⟨_,h3 _,?_⟩;conv=>whnf
   refine ae (fun g2=>?_) (fun g2=>?_)
   rotate_left
   ·have jk:res=none:=by rw[aQ,if_neg];simp[g2]
    subst jk;conv=>whnf
    exact⟨_,rfl,_,_,_,rfl,kJ _⟩
   conv=>whnf
   refine⟨_,h4 _,?_⟩;conv=>whnf
   refine ae (fun g3=>?_) (fun g3=>?_)
   rotate_left
   ·have jk:res=none:=by rw[aQ,if_neg];simp[g3]
    subst jk;conv=>whnf
    exact⟨_,rfl,_,_,_,rfl,kJ _⟩
   rw[g1,g2,g3]at aQ;simp only[Bool.and_self,if_true]at aQ;have Pn:=(tZ g1).2;have f1:=IL g2;have f2:=IL g3
   have f3: ∀x∈now,∀k∈aq,0<=k/\k<x.row.length:=fun x hxm=>by
    rw[o4]at hxm;obtain⟨y,hy,e⟩:=RC x hxm;rw[e];rcases hy with hy|hy
    ·exact f1 y hy
    ·exact f2 y hy
   have Rv:=dC o3;have n1:=IK hp z d aq hz hd.1 (by omega) f2 f1;have n2:=IK hp now d aq Rv hd.1 (by omega) f2 f3;have k1:=BF hp (qS z d aq) aq agg c (DX hz) sd;have k2:=BF hp (qS now d aq) aq agg c (DX Rv) sd;clear h2 h3 h4 g1 g2 g3 f1 f2 f3 ZW;generalize qS z d aq=za at n1 k1 aQ;generalize qS now d aq=zb at n2 k2 aQ;have w1:=@DW za;have w2:=@DW zb;have e1: ∀h,dc h [aI.enc d,.sl (aq.map i64)]=some [aI.enc d,.sl (aq.map i64)]:=fun h=>rfl;have e2: ∀h,dc h [.sl (aq.map i64),i64 agg,i64 c]=some [.sl (aq.map i64),i64 agg,i64 c]:=fun h=>rfl;rcases ha:mn za aq agg c with _|a<;>rcases hb:mn zb aq agg c with _|b
   all_goals
    rw[ha]at k1;rw[hb]at k2;rw[ha,hb]at aQ;simp only at aQ;conv=>whnf
    refine dG S n1 rfl rfl fun v2 q2 F3 S3=>?_;conv=>whnf
    refine iG S3 k1 rfl (bu (qQ S3) (e2 _)) fun vs q3 F4 S4=>?_;obtain⟨v3,F5,rfl,S5⟩:=aj.lC S4;conv=>whnf
    refine dG S5 n2 rfl (bu (aI.iT (S5.get 2 rfl)) (e1 _)) fun v4 q4 F6 S6=>?_;conv=>whnf
    refine iG S6 k2 rfl (bu (qQ S6) (e2 _)) fun vs q5 F7 S7=>?_;obtain⟨v5,F8,rfl,S8⟩:=aj.lC S7;conv=>whnf
    try(first|(subst aQ
               exact⟨_,rfl,_,_,_,rfl,kJ _⟩))
   have r1:=dA (w1 ha);have r2:=dA (w2 hb);have d1:=DU hp b a (dC (w2 hb)) (dC (w1 ha)) (by simp[dB];omega);have h7:=gx (a:=b) (b:=tf a) (dC (w2 hb)).2 (BA (dC (w1 ha))).2;have h8:(tf a).length<=100:=by simp[tf];omega
   have h9:ij (pt b a):=⟨by have:=h7.1;unfold pt;simp[dB];omega,h7.2⟩;refine dG S8 d1 rfl (lj (aI.iT (S8.get 0 rfl)) (aI.iT (S8.get 2 rfl))) fun v6 q6 F9 S9=>?_;conv=>whnf
   refine qR hp h9 S9 (fun g=>?_) (fun g=>?_)
   ·have jk:=aQ.trans (pk g);subst jk;conv=>whnf
    exact⟨_,rfl,_,_,_,rfl,CN S9 true⟩
   ·have jk:=aQ.trans (po g);subst jk;conv=>whnf
    exact⟨_,rfl,_,_,_,rfl,kJ _⟩
def zk(bH:List (List Item)):Bool:=bH.all dS
theorem RG(hp:cF pr)(bH:List (List Item))(hr:s7 bH):dK pr 161 [.agg [bX.enc bH]] (.bool (zk bH)):=by
 have e1:=fun(z:List Item)(h:z∈bH)=>iU hp z (hr.2 z h);have hl:=hr.1;have aQ:zk bH=zk bH:=rfl;conv at aQ=>rhs;unfold zk
 generalize zk bH=res at aQ⊢;refine kz hp rfl rfl ?_;have S:=aj.nil [];conv=>whnf
 intro k1 a1 eg er;replace S:=S.alloc eg er;conv=>whnf
 refine dQ (fun m tm hp=>∃(j:Nat),j+m=bH.length/\tm 3=i64 (j:Nat)/\aj hp [.row k1 (.box (.agg [bX.enc bH]))]/\((bH.take j).all dS=true)) (fun m tm hq bG hI=>?_) (bH.length) ⟨0,by simp,rfl,S,(rfl)⟩;obtain⟨j,hj,e3,S2,aF⟩:=hI;have k1:=bG 1 (by kernel_rfl);conv at k1=>rhs;whnf
 refine⟨[(1,_),(3,_)],⟨k1,e3,trivial⟩,?_⟩;clear bG k1 e3;replace S:=S2;clear S2;conv=>whnf
 have gA:j<4611686018427387904:=by simp[dB]at hl;omega
 refine aC (S.row 0 rfl) ?_;conv=>whnf
 refine ae (fun h1=>?_) (fun h1=>?_)
 ·have bp:j<bH.length:=by simpa using h1
  have dw:(bH.map aI.enc)[((j:Nat):Int).toNat]?=some (aI.enc bH[j]):=by rw[aaa];simp[bp]
  have dN:=mS dS bp;have ig:=pj (Q:=dS) bp;have hz:=e1 _ (aac bp);generalize bH[j]=z at dw dN ig hz;rw[aF,aay]at dN;refine aC (S.row 0 rfl) ?_;conv=>whnf
  refine⟨_,dw,by omega,rfl,?_⟩;conv=>whnf
  refine⟨_,hz _,?_⟩;conv=>whnf
  refine ae (fun g1=>?_) (fun g1=>?_)
  ·conv=>whnf
   exact⟨m-1,by omega,j+1,by omega,aP j gA,S,by rw[dN];exact g1⟩
  ·conv=>whnf
   exact br (by rw[aQ,ig g1])
 ·have bp:j=bH.length:=by
   have: ¬j<bH.length:=by simpa using h1
   omega
  subst bp;rw[aar]at aF;conv=>whnf
  exact br (by rw[aQ,aF])
theorem BG(hp:cF pr)(bH:List (List Item))(hr:s7 bH):lZ pr 140 [.agg [bX.enc bH]] (.g [bX.d bH]):=by
 have e1:=fun(z:List Item)(h:z∈bH)=>l7 hp z (hr.2 z h);have hl:=hr.1;refine nh hp rfl ?_;have S:=aj.nil [];conv=>whnf
 intro k1 a1 eg er;replace S:=S.alloc eg er;conv=>whnf
 intro k2 a2 jS jb;replace S:=S.alloc jS jb;conv=>whnf
 intro k3 a3 mF lI;replace S:=S.alloc mF lI;conv=>whnf
 refine⟨_,rfl,rfl,rfl,.inl ⟨_,S.row 0 rfl,rfl,?_⟩⟩;conv=>whnf
 intro a4 IM;replace S:=S.w0 IM;conv=>whnf
 replace S:=aj.lJ 1 S;refine dQ (fun m tm hp=>∃(j:Nat)(D:af)(F:List Nat),j+m=bH.length/\tm 4=i64 (j:Nat)/\aj hp [.jA 1 ((bH.take j).map aI.d) D F,.row k3 (.box (.agg [D])),.row k2 (.box (.agg [.nil])),.row k1 (.box (.agg [bX.enc bH]))]) (fun m tm hq bG hI=>?_) (bH.length) ⟨0,.nil,[],by simp,rfl,S⟩;obtain⟨j,D,F,hj,e4,S2⟩:=hI;have k1:=bG 1 (by kernel_rfl);conv at k1=>rhs;whnf
 have k2:=bG 2 (by kernel_rfl);conv at k2=>rhs;whnf
 have k3:=bG 3 (by kernel_rfl);conv at k3=>rhs;whnf
 refine⟨[(1,_),(2,_),(3,_),(4,_)],⟨k1,k2,k3,e4,trivial⟩,?_⟩;clear bG k1 k2 k3 e4;replace S:=S2;clear S2;conv=>whnf
 have gA:j<4611686018427387904:=by simp[dB]at hl;omega
 refine aC (S.row 3 rfl) ?_;conv=>whnf
 refine ae (fun h1=>?_) (fun h1=>?_)
 ·have bp:j<bH.length:=by simpa using h1
  have dw:(bH.map aI.enc)[((j:Nat):Int).toNat]?=some (aI.enc bH[j]):=by rw[aaa];simp[bp]
  have dN:=kP aI.d bp;have hz:=e1 _ (aac bp);generalize bH[j]=z at dw dN hz;refine aC (S.row 1 rfl) ?_;refine aC (S.row 3 rfl) ?_;conv=>whnf
  refine⟨_,dw,by omega,rfl,?_⟩;conv=>whnf
  refine dG S hz rfl rfl fun A q1 F1 S1=>?_;have o1:cq q1 (aI.d z) A F1:=(aj.ek S1).get 0 rfl;replace S:=(aj.ek S1).swap;clear S1;conv=>whnf
  refine ep o1.cell.1 ?_;conv=>whnf
  intro pI pJ dT dU;replace S:=S.alloc dT dU;conv=>whnf
  refine⟨trivial,?_⟩;conv=>whnf
  refine⟨[_],bT (S.row 0 rfl),dI o1.cell.1 o1.cell.2,?_⟩;replace S:=S.drop 0;dsimp only[List.eraseIdx]at S;refine lp (sz:=1) (d:=aI.d z) S (by simp[bB,dB]at*;omega) fun k5 h5 F5 S2=>?_;clear S;have S:=S2;clear S2;conv=>whnf
  refine⟨_,rfl,rfl,rfl,.inl ⟨_,S.row 1 rfl,rfl,?_⟩⟩;conv=>whnf
  intro h6 gU;replace S:=S.w1 gU;conv=>whnf
  exact⟨m-1,by omega,j+1,_,_,by omega,aP j gA,by rw[dN];exact S⟩
 ·have bp:j=bH.length:=by
   have: ¬j<bH.length:=by simpa using h1
   omega
  subst bp;rw[aar]at S;refine aC (S.row 1 rfl) ?_;conv=>whnf
  have o1:=(aj.ek S).get 0 rfl;refine⟨_,rfl,rfl,bM o1.cell.2 rfl,.inl ⟨_,S.row 2 rfl,rfl,?_⟩⟩;conv=>whnf
  intro h6 gU;replace S:=S.w2 gU;conv=>whnf
  exact zW rfl rfl (S.row 2 rfl) rfl (jD ((aj.ek S).get 0 rfl) iL) (by rw[aaw];exact((aj.ek S).get' 0 _ rfl).2)
def Po(x:af):af:=x
theorem Fy(vs:List af):vs.map Po=vs:=List.map_id' vs
theorem aj.RH{h:aG}{L:List Chunk}{sz:Nat}{xs:List bg}{vs:List af}{v:af}{Fs:List Nat}(S:aj h (.acc Po sz vs v:: .ed xs vs Fs::L)): ∃F,aj h (.jA sz xs v F::L):=by
 have h0:oW Po sz h vs v:=S.get 0 rfl;have hl:vs.length=xs.length:=iw (S.get 1 rfl);rcases h0 with⟨rfl,rfl⟩|⟨id,rfl,h1⟩
 ·have hx:xs=[]:=aaM.1 hl.symm;subst hx;exact⟨[],aj.lJ sz ((S.drop 0).drop 0)⟩
 ·rw[Fy]at h1;have S1:=S.is (c':=.row id (.arr sz vs)) h1 rfl;exact⟨_,aj.jX S1 hl⟩
theorem aj.at{h:aG}{L:List Chunk}{A B:List bg}{d:bg}{vs:List af}{F:List Nat}(S:aj h (.ed (A++d::B) vs F::L)): ∃VA v VB G,vs=VA++v::VB/\VA.length=A.length/\cq h d v G:=by
 obtain⟨v1,v2,F1,F2,rfl,rfl,h1,h2⟩:=o6 (show cZ h (A++d::B) vs F from S.get 0 rfl);simp only[cZ]at h2;obtain⟨v,fx,G1,G2,rfl,rfl,h3,h4⟩:=h2;exact⟨v1,v,fx,G1,rfl,iw h1,h3⟩
end Go.Proofs.YtfepbikckfehlaaGreat
set_option maxHeartbeats 4000000
namespace Go.Am
open Go
def Chunk.old(h0:aG)(G:List Nat):Chunk:=⟨G,fun h=>∀id∈G,id<h.length/\h[id]?=h0[id]?,fun h h' hp hf id dm=>by
 obtain⟨h1,h2⟩:=hp id dm;have h3:=hf id dm;refine⟨?_,h3.trans h2⟩;rw[aab h1]at h3;exact(aag.1 h3).1,fun h hp id dm=>(hp id dm).1⟩
def th(h:aG)(L:List Chunk):List Nat:=(List.range h.length).filter fun id=>L.all fun c=>!c.F.contains id
theorem ua{h:aG}{L:List Chunk}{id:Nat}:id∈th h L↔id<h.length/\ ∀c∈L,id∉c.F:=by
 unfold th;rw[List.mem_filter,List.mem_range,aaj];simp
theorem aj.ghost{h:aG}{L:List Chunk}(s:aj h L):aj h (.old h (th h L)::L):=by
 refine⟨fun i d hi=>?_,fun i j d e yP hi hj id dm hm=>?_⟩
 ·match i,hi with
  |0,hi=>
   simp at hi;subst hi
   exact⟨fun id dm=>⟨(ua.1 dm).1,rfl⟩,List.nodup_range.filter _⟩
  |i+1,hi=>exact s.get' i d (by simpa using hi)
 ·match i,j,hi,hj with
  |0,0,_,_=>exact yP rfl
  |0,j+1,hi,hj=>simp at hi;subst hi;exact(ua.1 dm).2 e (aaq (by simpa using hj)) hm
  |i+1,0,hi,hj=>simp at hj;subst hj;exact(ua.1 hm).2 d (aaq (by simpa using hi)) dm
  |i+1,j+1,hi,hj=>exact s.apart i j d e (by omega) (by simpa using hi) (by simpa using hj) id dm hm
theorem ub{p:Nat->Bool}{h:aG}{id:Nat}(hp:p id=false):(gh p 0 h)[id]?=h[id]?:=by
 rw[tK,aaK,hp];simp
theorem aj.uL{h:aG}{L:List Chunk}{p:Nat->Bool}(s:aj h L)(hk: ∀c∈L,∀id∈c.F,p id=false):aj (gh p 0 h) L:=
 ⟨fun i d hi=>⟨d.loc h _ (s.get i hi) fun id dm=>ub (hk d (aaq hi) id dm),(s.get' i d hi).2⟩,s.apart⟩
end Go.Am
namespace Go.Proofs.YtfepbikckfehlaaGreat
open Go Go.Am
variable{pr:bW}
theorem cZ.ti{h:aG}{ds:List bg}{vs:List af}{F:List Nat}(ho:cZ h ds vs F)(hd:bg.dO ds<=4194302):Am.snap h (.eT vs)=some (.eT (bg.dv ds)):=by
 obtain⟨n,hn,hle⟩: ∃n:Nat,4194304=n+2/\4194302=n:=⟨4194302,by decide,rfl⟩;have e:=(wE (h:=h) _).2.1 ds vs F n (aah _) ho (by omega);unfold Am.snap;rw[hn];show(di (cI h (n+1)) vs).map af.eT=_;rw[e];rfl
theorem lZ.ret{f:FuncId}{args:List af}{d:bg}(hr:lZ pr f args d)(ha:dc [] args=some args)(hd:d.dep<=4194303)(hM:gI f=Am.Mode.P:=by rfl):dK pr f args d.enc:=by
 obtain⟨v,h1,F,hc,ho,_⟩:=hr;intro h;have hm:(dZ pr).M f= .P:=hM;unfold cj;simp only[hm,ha,hc,ho.snap hd,aaL]
theorem nc.ret{f:FuncId}{args:List af}{ds:List bg}(hr:nc pr f args ds)(ha:dc [] args=some args)(hd:bg.dO ds<=4194302)(hM:gI f=Am.Mode.P:=by rfl):dK pr f args (.eT (bg.dv ds)):=by
 obtain⟨vs,h1,F,hc,ho,_⟩:=hr;intro h;have hm:(dZ pr).M f= .P:=hM;unfold cj;simp only[hm,ha,hc,cZ.ti ho hd,aaL]
theorem U4{f:FuncId}{args:List af}{h:aG}{L:List Chunk}{C0:Chunk}{Q:af->Chunk->Prop}(hM:gI f=Am.Mode.R)(S:aj h (C0::L))
  (hw: ∀L,aj h (C0::L)-> ∃v h1 x CR C1,call (dZ pr) f args h=some (.ret v h1)/\aj h1 (CR::C1::L)/\(∀h',CR.P h'->Am.snap h' v=some x)/\C1.F=C0.F/\Q x C1):
  ∃x C1 h2,cj (dZ pr) (call (dZ pr)) f args h=some (.ret x h2)/\aj h2 (C1::L)/\h.length<=h2.length/\Q x C1:=by
   have S0:=S.ghost.swap
   have hG: ∀id,id<h.length->id∈C0.F∨id∈th h (C0::L)∨ ∃c∈L,id∈c.F:=fun id dm=>by
    by_cases h1: ∀c∈C0::L,id∉c.F
    ·exact .inr (.inl (ua.2 ⟨dm,h1⟩))
    ·simp only[aaz,Classical.not_forall,Classical.not_not]at h1;obtain⟨c,hc|hc,hm⟩:=h1
     ·subst hc;exact .inl hm
     ·exact .inr (.inr ⟨c,hc,hm⟩)
   generalize th h (C0::L)=G at S0 hG;obtain⟨v,h1,x,CR,C1,hc,S1,hx,hF,hq⟩:=hw _ S0
   have hlen:h.length<=h1.length:=by
    refine Nat.le_of_not_lt fun fK=>?_;rcases hG (h.length-1) (by omega)with hm|hm|⟨c,hcL,hm⟩
    ·have:=S1.lt 1 rfl _ (by rw[hF];exact hm);omega
    ·have:=S1.lt 2 rfl _ hm;omega
    ·obtain⟨i,hi⟩:=List.mem_iff_getElem?.1 hcL;have:=S1.lt (i+3) (by simpa using hi) _ hm;omega
   have abY: ∀id∈CR.F,h.length<=id:=fun id dm=>Nat.le_of_not_lt fun fK=>by
    rcases hG id fK with hm|hm|⟨c,hcL,hm⟩
    ·exact S1.apart 0 1 _ _ (by omega) rfl rfl id dm (by rw[hF];exact hm)
    ·exact S1.apart 0 2 _ _ (by omega) rfl rfl id dm hm
    ·obtain⟨i,hi⟩:=List.mem_iff_getElem?.1 hcL;exact S1.apart 0 (i+3) _ c (by omega) rfl (by simpa using hi) id dm hm
   have hs:Am.snap (gh (fun i=>Nat.blt i h.length) 0 h1) v=some x:=hx _ (CR.loc h1 _ (S1.get 0 rfl) fun id dm=>ub (by
    cases e:Nat.blt id h.length with
    |false=>rfl
    |true=>have:=abY id dm;have:=Nat.ble_eq.mp e;omega))
   have fK: ∀c∈C1::L,∀id∈c.F,Nat.ble h.length id=false:=fun c SQ id dm=>by
    have:id<h.length:=by
     rcases aaz.1 SQ with rfl|SQ
     ·exact S.lt 0 rfl id (by rw[<-hF];exact dm)
     ·obtain⟨i,hi⟩:=List.mem_iff_getElem?.1 SQ;exact S.lt (i+1) (by simpa using hi) id dm
    cases e:Nat.ble h.length id with
    |false=>rfl
    |true=>have:=Nat.ble_eq.mp e;omega
   refine⟨x,C1,gh (Nat.ble h.length) 0 h1,?_,aj.uL ((S1.drop 2).drop 0) fK,by rw[il];exact hlen,hq⟩;have hm:(dZ pr).M f= .R:=hM;unfold cj;simp only[hm,hc,Nat.ble_eq.mpr hlen,hs,aaL]
theorem WA{f:FuncId}{args dD:List af}{h h1:aG}{v x:af}(hM:gI f=Am.Mode.V)(hn:dc [] args=some dD)(hr:call (dZ pr) f dD []=some (.ret v h1))(hv:Am.snap h1 v=some x):
  cj (dZ pr) (call (dZ pr)) f args h=some (.ret x h):=by
   have hm:(dZ pr).M f= .V:=hM;unfold cj;simp only[hm,hn,hr,hv,aaL]
theorem Y5{f:FuncId}{args dD:List af}{h h1:aG}{v x:af}(hM:gI f=Am.Mode.V)(hn:dc [] args=none)(hs:dc (gh (fun i=>!fR h args i) 0 h) args=some dD)(hr:call (dZ pr) f dD []=some (.ret v h1))(hv:Am.snap h1 v=some x):
  cj (dZ pr) (call (dZ pr)) f args h=some (.ret x (gh (fR h args) 0 h)):=by
   have hm:(dZ pr).M f= .V:=hM;unfold cj;simp only[hm,hn,qw,hs,hr,hv,aaL];rfl
theorem WB{f:FuncId}{args dD:List af}{h h1:aG}{v x:af}(hM:gI f=Am.Mode.X)(hn:dc [] args=some dD)(hr:call (dZ pr) f dD []=some (.ret v h1))(hv:Am.snap h1 v=some x):
  cj (dZ pr) (call (dZ pr)) f args h=some (.ret x h):=by
   have hm:(dZ pr).M f= .X:=hM;unfold cj;simp only[hm,hn,hr,hv,aaL]
theorem Y6{f:FuncId}{args dD:List af}{h h1:aG}{v x:af}(hM:gI f=Am.Mode.X)(hn:dc [] args=none)(hs:dc (gh (fun i=>!fR h args i) 0 h) args=some dD)(hr:call (dZ pr) f dD []=some (.ret v h1))(hv:Am.snap h1 v=some x):
  cj (dZ pr) (call (dZ pr)) f args h=some (.ret x ((gh (fR h args) 0 h).map (yC (gh (fun i=>!fR h args i) 0 h) (fR h args)))):=by
   have hm:(dZ pr).M f= .X:=hM;unfold cj;simp only[hm,hn,qw,hs,hr,hv,aaL];rfl
def Fz(pr:bW)(f:FuncId)(args:List af)(x:af):Prop:=∃v h1,call (dZ pr) f args []=some (.ret v h1)/\Am.snap h1 v=some x
theorem WC{f:FuncId}{args dD:List af}{x:af}{h:aG}{L:List Chunk}{C:Chunk}(hM:gI f=Am.Mode.V)(S:aj h (C::L))(hs: ∀h',C.P h'->dc h' args=some dD)(hF: ∀i,fR h args i=true↔i∈C.F)(hr:Fz pr f dD x):
  ∃h2,cj (dZ pr) (call (dZ pr)) f args h=some (.ret x h2)/\aj h2 L/\h.length<=h2.length:=by
   obtain⟨v,h1,hc,hv⟩:=hr
   cases hn:dc [] args with
   |some a2=>
    have e:=x5 h hn;rw[hs h (S.get 0 rfl)]at e;cases e
    exact⟨h,WA hM hn hc hv,S.drop 0,aah _⟩
   |none=>
    refine⟨_,Y5 hM hn (hs _ (C.loc h _ (S.get 0 rfl) fun id dm=>ub (by rw[(hF id).2 dm];rfl))) hc hv,aj.uL (S.drop 0) fun c SQ id dm=>?_,by rw[il];exact aah _⟩
    cases e:fR h args id with
    |false=>rfl
    |true=>
     obtain⟨i,hi⟩:=List.mem_iff_getElem?.1 SQ;exact absurd dm (S.apart 0 (i+1) C c (by omega) rfl (by simpa using hi) id ((hF id).1 e))
mutual
def bg.CP:bg->Bool
 | .p _=>false
 | .s _ xs=>bg.pR xs
 | .a _ xs=>bg.pR xs
 | .g ds=>bg.pR ds
 |_=>true
def bg.pR:List bg->Bool
 | []=>true
 |d::ds=>d.CP&&bg.pR ds
end
theorem DY{h:aG}{x:af}(hx:x.KG=true)(n:Nat):kA h n x=[]:=by
 cases n with
 |zero=>rfl
 |succ n=>cases x<;>first|rfl|(simp[af.KG,af.isScalar]at hx)
theorem rT{h:aG}: ∀{xs:List af}(hx:xs.all af.KG=true)(n:Nat),xs.flatMap (kA h n)=[]
 | [],_,_=>rfl
 |x::xs,hx,n=>by
  simp only[abi,xz]at hx;rw[List.flatMap_cons,DY hx.1 n,rT hx.2 n];rfl
theorem OO{h:aG}: ∀(N:Nat),(∀(d:bg)(v:af)(F:List Nat)(n:Nat),SizeOf.sizeOf d<=N->d.CP=true->cq h d v F->d.dep<=n->kA h (n+1) v=F/\v.cells.flatMap (kA h n)=F)/\
  (∀(ds:List bg)(vs:List af)(F:List Nat)(n:Nat),SizeOf.sizeOf ds<=N->bg.pR ds=true->cZ h ds vs F->bg.dO ds<=n->vs.flatMap (kA h (n+1))=F)/\
  ∀(ds:List bg)(vs:List af)(F:List Nat)(n:Nat),SizeOf.sizeOf ds<=N->bg.pR ds=true->fy h ds vs F->bg.dO ds<=n->vs.flatMap (kA h n)=F:=by
   intro N
   induction N with
   |zero=>
    refine⟨fun d v F n hs=>?_,fun ds vs F n hs=>?_,fun ds vs F n hs=>?_⟩
    ·cases d<;>simp at hs
    ·cases ds<;>simp at hs
    ·cases ds<;>simp at hs
   |succ N ih=>
    refine⟨fun d v F n hs hu hp hn=>?_,fun ds vs F n hs hu hp hn=>?_,fun ds vs F n hs hu hp hn=>?_⟩
    ·have key:v.KG=true->F=[]->kA h (n+1) v=F/\v.cells.flatMap (kA h n)=F:=fun h1 h2=>by
      subst h2;refine⟨DY h1 _,?_⟩;have e:v.cells=[v]:=by cases v<;>first|rfl|(simp[af.KG,af.isScalar]at h1)
      rw[e];exact rT (by simp[h1]) n
     cases d with
     |i x=>simp only[cq]at hp;obtain⟨rfl,hF⟩:=hp;exact key rfl hF
     |b x=>simp only[cq]at hp;obtain⟨rfl,hF⟩:=hp;exact key rfl hF
     |p q=>simp only[bg.CP]at hu;cases hu
     |s sz xs=>
      simp only[cq]at hp;simp only[bg.dep]at hn;simp only[bg.CP]at hu;obtain⟨n,rfl⟩: ∃k,n=k+2:=⟨n-2,by omega⟩;rcases hp with⟨rfl,rfl,rfl|rfl⟩|⟨id,vs,Fs,rfl,h5,h6,rfl⟩
      ·exact⟨rfl,rfl⟩
      ·exact⟨rfl,rfl⟩
      ·have e1:=ih.2.1 xs vs Fs (n+1) (by simp at hs;omega) hu h6 (by omega);have e2:=ih.2.1 xs vs Fs n (by simp at hs;omega) hu h6 (by omega);refine⟨?_,?_⟩
       ·simp only[kA,h5];rw[<-e1]
       ·simp only[af.cells,List.flatMap_cons,List.flatMap_nil,aaw];simp only[kA,h5]
        rw[<-e2]
     |a sz xs=>
      simp only[cq]at hp;simp only[bg.dep]at hn;simp only[bg.CP]at hu;obtain⟨n,rfl⟩: ∃k,n=k+2:=⟨n-2,by omega⟩;rcases hp with⟨rfl,rfl,rfl⟩|⟨id,vs,Fs,rfl,h5,h6,rfl⟩
      ·exact⟨rfl,rfl⟩
      ·have e1:=ih.2.1 xs vs Fs (n+1) (by simp at hs;omega) hu h6 (by omega);have e2:=ih.2.1 xs vs Fs n (by simp at hs;omega) hu h6 (by omega);refine⟨?_,?_⟩
       ·simp only[kA,h5];rw[<-e1]
       ·simp only[af.cells,List.flatMap_cons,List.flatMap_nil,aaw];simp only[kA,h5]
        rw[<-e2]
     |g ds=>
      simp only[cq]at hp;simp only[bg.dep]at hn;simp only[bg.CP]at hu;obtain⟨vs,rfl,h1⟩:=hp;have e1:=ih.2.2 ds vs F n (by simp at hs;omega) hu h1 (by omega)
      exact⟨e1,e1⟩
     |v x=>
      simp only[cq]at hp;obtain⟨rfl,rfl,hx⟩:=hp
      cases v with
      |agg cs=>exact⟨rT (show cs.all af.KG=true from hx) n,rT (show cs.all af.KG=true from hx) n⟩
      |_=>exact key hx rfl
    ·cases ds with
     |nil=>simp only[cZ]at hp;rw[hp.1,hp.2];rfl
     |cons p ps=>
      simp only[cZ]at hp;obtain⟨v,fx,F1,F2,rfl,rfl,h1,h2⟩:=hp;simp at hs;simp only[bg.dO]at hn;simp only[bg.pR,xz]at hu;rw[List.flatMap_cons,(ih.1 p v F1 n (by omega) hu.1 h1 (by omega)).1,ih.2.1 ps fx F2 n (by omega) hu.2 h2 (by omega)]
    ·cases ds with
     |nil=>simp only[fy]at hp;rw[hp.1,hp.2];rfl
     |cons p ps=>
      simp only[fy]at hp;obtain⟨v,fx,F1,F2,rfl,rfl,h1,h2⟩:=hp;simp at hs;simp only[bg.dO]at hn;simp only[bg.pR,xz]at hu;rw[List.flatMap_append,(ih.1 p v F1 n (by omega) hu.1 h1 (by omega)).2,ih.2.2 ps fx F2 n (by omega) hu.2 h2 (by omega)]
theorem cZ.reach{h:aG}{ds:List bg}{vs:List af}{F:List Nat}(ho:cZ h ds vs F)(hu:bg.pR ds=true)(hd:bg.dO ds<=4194303)(i:Nat):fR h vs i=true↔i∈F:=by
 obtain⟨n,hn,hle⟩: ∃n:Nat,4194304=n+1/\4194303=n:=⟨4194303,by decide,rfl⟩;unfold fR;rw[hn,(OO _).2.1 ds vs F n (aah _) hu ho (by omega)];simp
theorem RI{f:FuncId}{ds:List bg}{vs:List af}{F:List Nat}{x:af}{h:aG}{L:List Chunk}(hM:gI f=Am.Mode.V)(S:aj h (.ed ds vs F::L))(hu:bg.pR ds=true)(hd:bg.dO ds<=4194303)(hr:Fz pr f (bg.dv ds) x):
  ∃h2,cj (dZ pr) (call (dZ pr)) f vs h=some (.ret x h2)/\aj h2 L/\h.length<=h2.length:=by
   refine WC hM S (fun h' hp=>?_) (cZ.reach (S.get 0 rfl) hu hd) hr;obtain⟨n,hn,hle⟩: ∃n:Nat,4194304=n+1/\4194303=n:=⟨4194303,by decide,rfl⟩;have ho:cZ h' ds vs F:=hp;have e:=(wE (h:=h') _).2.1 ds vs F n (aah _) ho (by omega);unfold dc Am.snap;rw[hn];exact e
end Go.Proofs.YtfepbikckfehlaaGreat
set_option maxHeartbeats 4000000
namespace Go.Proofs.YtfepbikckfehlaaGreat
open Go Go.Am
variable{pr:bW}(hp:cF pr)
set_option maxRecDepth 100000
theorem lZ.toV{f:FuncId}{args:List af}{d:bg}(hr:lZ pr f args d)(hd:d.dep<=4194303):Fz pr f args d.enc:=by
 obtain⟨v,h1,F,hc,ho,_⟩:=hr;exact⟨v,h1,hc,ho.snap hd⟩
theorem nc.toV{f:FuncId}{args:List af}{ds:List bg}(hr:nc pr f args ds)(hd:bg.dO ds<=4194302):Fz pr f args (.eT (bg.dv ds)):=by
 obtain⟨vs,h1,F,hc,ho,_⟩:=hr;exact⟨_,h1,hc,cZ.ti ho hd⟩
def bX.v(xs:List (List Item)):List bg:=xs.map fun z=>.v (aI.enc z)
theorem FC{h:aG}: ∀(xs:List (List Item)),cZ h (bX.v xs) (xs.map aI.enc) []
 | []=>by simp[bX.v,cZ]
 |x::xs=>by
  have:=FC (h:=h) xs;simp only[bX.v,aao,cZ,cq];exact⟨_,_,[],[],rfl,rfl,⟨rfl,rfl,rfl⟩,this⟩
theorem Y7{h:aG}{L:List Chunk}{A:List (List Item)}{D:af}(S:aj h (.acc Po 1 (A.map aI.enc) D::L)): ∃F,cq h (.g [.s 1 (bX.v A)]) (.agg [D]) F/\F.Nodup:=by
 have S1:=(S.more (c:=.ed (bX.v A) (A.map aI.enc) []) (aa2 _) (FC A) (by simp[Chunk.ed]) (by simp[Chunk.ed])).swap;obtain⟨F,S2⟩:=aj.RH S1;have S3:=aj.ek S2;have ho:cq h (.s 1 (bX.v A)) D F:=S3.get 0 rfl;have hn:F.Nodup:=(S3.get' 0 _ rfl).2;exact⟨F++[],iF.2 ⟨_,rfl,l6.2 ⟨D,[],F,[],rfl,rfl,ho,fO.2 ⟨rfl,rfl⟩⟩⟩,by simpa using hn⟩
theorem Y8{h:aG}{L:List Chunk}{A:List (List Item)}{z:List Item}{D w:af}{F3:List Nat}(S:aj h (.acc Po 1 (A.map aI.enc++[w]) D:: .jA 2 (z.map Item.d) w F3::L)): ∃F,cq h (.g [.s 1 (bX.v A++[aI.d z])]) (.agg [D]) F/\F.Nodup:=by
 have S0:=aj.ek S.swap;have S1:=(S0.swap.more (c:=.ed (bX.v A) (A.map aI.enc) []) (aa2 _) (FC A) (by simp[Chunk.ed]) (by simp[Chunk.ed])).front 2 rfl;dsimp only[List.eraseIdx]at S1;have S2:=(aj.snoc S1).swap;obtain⟨F,S3⟩:=aj.RH S2;have S4:=aj.ek S3;have ho:cq h (.s 1 (bX.v A++[aI.d z])) D F:=S4.get 0 rfl;have hn:F.Nodup:=(S4.get' 0 _ rfl).2;exact⟨F++[],iF.2 ⟨_,rfl,l6.2 ⟨D,[],F,[],rfl,rfl,ho,fO.2 ⟨rfl,rfl⟩⟩⟩,by simpa using hn⟩
theorem RJ(hp:cF pr)(A:List (List Item))(y z:List Item)(hy:ij y)(hz:ij z)(hl:y.length+z.length<=dB)(hA:A.length<=1000):
  lZ pr 151 [.agg [bX.enc (A++[y,z])]] (.g [.s 1 (bX.v A++(if dt y z=[]then []else [aI.d (dt y z)]))]):=by
   have h1:=l9 hp y z hy hz hl;have CI:((A++[y,z]).map aI.enc).length=A.length+2:=by simp
   have CQ:IntKind.i64.wrap ((((A++[y,z]).map aI.enc).length:Int)-2)=(A.length:Int):=by rw[aaC,CI];omega
   have Cq:IntKind.i64.wrap ((((A++[y,z]).map aI.enc).length:Int)-1)=((A.length+1:Nat):Int):=by rw[aaC,CI];omega
   have jk:((A++[y,z]).map aI.enc)[A.length]?=some (aI.enc y):=by simp
   have O9:((A++[y,z]).map aI.enc)[A.length+1]?=some (aI.enc z):=by simp
   refine nh hp rfl ?_;have S:=aj.nil [];conv=>whnf
   intro k1 a1 eg er;replace S:=S.alloc eg er;conv=>whnf
   intro k2 a2 jS jb;replace S:=S.alloc jS jb;refine aC (S.row 1 rfl) ?_;conv=>whnf
   refine aC (S.row 1 rfl) ?_;conv=>whnf
   refine⟨aI.enc y,by rw[CQ];exact jk,by rw[CQ];omega,rfl,?_⟩;refine aC (S.row 1 rfl) ?_;conv=>whnf
   refine⟨aI.enc z,by rw[Cq];exact O9,by rw[Cq];omega,rfl,?_⟩;conv=>whnf
   refine dG S h1 rfl rfl fun w q1 F3 S1=>?_;clear S h1;have S:=S1;clear S1;refine aC (S.row 2 rfl) ?_;conv=>whnf
   conv=>whnf
   have b1:(0:Int)<=IntKind.i64.wrap ((((A++[y,z]).map aI.enc).length:Int)-2):=by rw[CQ];omega
   have b2:IntKind.i64.wrap ((((A++[y,z]).map aI.enc).length:Int)-2)<=(((A++[y,z]).map aI.enc).length:Int):=by rw[CQ,CI];omega
   have b3:(IntKind.i64.wrap ((((A++[y,z]).map aI.enc).length:Int)-2)).toNat=A.length:=by rw[CQ];rfl
   refine⟨⟨Int.le_refl _,b1,b2,by rw[List.all_map,aaj];intro _ _;rfl⟩,?_⟩;conv=>whnf
   refine⟨trivial,?_⟩;conv=>whnf
   have abZ:(((A++[y,z]).map aI.enc).drop ((none:Option Int).getD 0).toNat).take (((some (IntKind.i64.wrap ((((A++[y,z]).map aI.enc).length:Int)-2))).getD (((A++[y,z]).map aI.enc).length:Int)).toNat-((none:Option Int).getD 0).toNat)=A.map aI.enc:=by
    rw[Option.getD_some,b3];show List.take A.length (List.map aI.enc (A++[y,z]))=_;rw[aaD,List.take_left' (by simp)]
   refine⟨A.map aI.enc,congrArg some abZ,by rw[List.all_map,aaj];intro _ _;rfl,?_⟩;rw[<-Fy (A.map aI.enc)];refine kT (aj.nF Po 1 S) (by simp[bB];omega) fun D1 w1 Gh S1=>?_;have hc:D1.cells=[D1]:=by rcases Gh with rfl|⟨_,rfl⟩<;>rfl
   replace S:=S1;clear S1;rw[List.nil_append]at S Gh;conv=>whnf
   refine ep hc ?_;conv=>whnf
   intro k3 a3 mF lI;replace S:=S.alloc mF lI;have sL:[D1].all af.bQ=true:=by rcases Gh with rfl|⟨_,rfl⟩<;>rfl
   conv=>whnf
   refine⟨_,rfl,rfl,sL,.inl ⟨_,S.row 0 rfl,rfl,?_⟩⟩;conv=>whnf
   intro a4 IM;replace S:=S.w0 IM;conv=>whnf
   replace S:=S.front 2 rfl;simp only[List.eraseIdx_cons_succ,List.eraseIdx_cons_zero]at S;have S':aj a4 [.jA 2 (List.map Item.d (dt y z)) w F3,.row k3 (.box (.agg [D1])),.acc Po 1 (A.map aI.enc) D1,.row k2 (.box (.agg [.nil]))]:=S.drop 4;clear S;have S:=S';clear S';rcases aj.wH S with⟨wJ,rfl,S1⟩|⟨zS,ws,Fs,rfl,S1⟩
   ·have DS:dt y z=[]:=by simpa using wJ
    refine aC (S.row 1 rfl) ?_;conv=>whnf
    conv=>whnf
    refine⟨_,rfl,rfl,sL,.inl ⟨_,S.row 3 rfl,rfl,?_⟩⟩;conv=>whnf
    intro a5 IN;replace S:=S.w3 IN;conv=>whnf
    obtain⟨F,ho,hn⟩:=Y7 (((S.drop 0).drop 0).front 0 rfl);rw[if_pos DS,aaw];exact⟨.ret (.agg [D1]) a5,eu rfl rfl (S.row 3 rfl) (by rcases Gh with rfl|⟨_,rfl⟩<;>rfl),_,_,F,rfl,ho,hn⟩
   ·rw[aat]at*;conv=>whnf
    by_cases g:dt y z=[]
    ·rw[show decide (((dt y z).length:Int)>0)=false from by rw[g];rfl];refine aC (S.row 1 rfl) ?_;conv=>whnf
     conv=>whnf
     refine⟨_,rfl,rfl,sL,.inl ⟨_,S.row 3 rfl,rfl,?_⟩⟩;conv=>whnf
     intro a5 IN;replace S:=S.w3 IN;conv=>whnf
     obtain⟨F,ho,hn⟩:=Y7 (((S.drop 0).drop 0).front 0 rfl);rw[if_pos g,aaw];exact⟨.ret (.agg [D1]) a5,eu rfl rfl (S.row 3 rfl) (by rcases Gh with rfl|⟨_,rfl⟩<;>rfl),_,_,F,rfl,ho,hn⟩
    ·have vR:0<(dt y z).length:=List.length_pos_iff.mpr g;rw[show decide (((dt y z).length:Int)>0)=true from by simp;exact vR];refine aC (S.row 1 rfl) ?_;conv=>whnf
     conv=>whnf
     intro pI pJ dT dU;replace S:=S.alloc dT dU;conv=>whnf
     refine⟨trivial,?_⟩;conv=>whnf
     refine⟨[_],bT (S.row 0 rfl),dI rfl rfl,?_⟩;replace S:=S.drop 0;dsimp only[List.eraseIdx]at S;replace S:=S.front 2 rfl;simp only[List.eraseIdx_cons_succ,List.eraseIdx_cons_zero]at S;refine qp (f:=Po) (x:=.own zS 0 (dt y z).length) S (by simp[bB];omega) fun k4 a5 S2 _=>?_;clear S;have S:=S2;clear S2;conv=>whnf
     refine⟨_,rfl,rfl,rfl,.inl ⟨_,S.row 2 rfl,rfl,?_⟩⟩;conv=>whnf
     intro a6 Y9;replace S:=S.w2 Y9;conv=>whnf
     refine aC (S.row 2 rfl) ?_;conv=>whnf
     conv=>whnf
     refine⟨_,rfl,rfl,rfl,.inl ⟨_,S.row 3 rfl,rfl,?_⟩⟩;conv=>whnf
     intro a7 RK;replace S:=S.w3 RK;conv=>whnf
     obtain⟨F,ho,hn⟩:=Y8 (S.drop 2);rw[if_neg g];exact⟨_,eu rfl rfl (S.row 3 rfl) rfl,_,_,F,rfl,ho,hn⟩
end Go.Proofs.YtfepbikckfehlaaGreat

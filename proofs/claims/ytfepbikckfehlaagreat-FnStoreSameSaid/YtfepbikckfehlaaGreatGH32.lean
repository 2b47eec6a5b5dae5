/- What is reckoned of groups: the reference's. -/
import Derived.Test.YtfepbikckfehlaaGreatGH31
import Derived.Test.YtfepbikckfehlaaGreatGH12
set_option linter.unusedVariables false
set_option linter.unusedSimpArgs false
set_option maxHeartbeats 4000000
namespace Go.Proofs.YtfepbikckfehlaaGreat
open Go Go.Am
variable{pr:bW}(hp:cF pr)
set_option maxRecDepth 100000
theorem aj.Rw{h:aG}{L:List Chunk}{xs:List Int}{v:af}{F:List Nat}(S:aj h (.jA 1 (xs.map bg.i) v F::L)):aj h (.acc i64 1 xs v::L):=by
 have h0:sv 1 h (xs.map bg.i) v F:=S.get 0 rfl;obtain⟨h1,h2⟩:=h0;have h3:=KI.2 h1;rcases h3 with⟨rfl,rfl,hv⟩|⟨id,rfl,h4,rfl⟩
 ·have hv:v= .nil:=by
   rcases h2 with h|⟨id,h⟩
   ·exact h
   ·rcases hv with hv|hv<;>(rw[hv]at h;cases h)
  subst hv;exact S.is (c':=.acc i64 1 [] .nil) (.inl ⟨rfl,rfl⟩) rfl
 ·exact S.is (c':=.acc i64 1 xs (.own id 0 xs.length)) (.inr ⟨id,rfl,h4⟩) rfl
theorem aj.Fu{h:aG}{L:List Chunk}{xs:List Int}{v:af}(S:aj h (.acc i64 1 xs v::L)):aj h (.jA 1 (xs.map bg.i) v (pO v)::L):=by
 have h0:oW i64 1 h xs v:=S.get 0 rfl;have S1:=aj.kn S;refine S1.is (c':=.jA 1 (xs.map bg.i) v (pO v)) ⟨S1.get 0 rfl,?_⟩ rfl;rcases h0 with⟨_,rfl⟩|⟨id,rfl,_⟩
 ·exact .inl rfl
 ·exact .inr ⟨id,by rw[aat]⟩
theorem Rx(hp:cF pr)(xs:List Int)(hl:xs.length<=dB):u0 pr 93 [.sl (xs.map i64)] 1 (xs.map bg.i):=by
 refine s9 hp rfl ?_;have S:=aj.nil [];conv=>whnf
 refine⟨trivial,?_⟩;conv=>whnf
 refine⟨_,rfl,KR xs,?_⟩;refine kT (ys:=xs) (aj.nF i64 1 S) (by simp[bB,dB]at*;omega) fun D1 w1 Gh S1=>?_;conv=>whnf
 exact⟨_,rfl,_,_,_,rfl,(aj.Fu S1).get 0 rfl,((aj.Fu S1).get' 0 _ rfl).2⟩
theorem Lj(hp:cF pr)(a b:List Int)(ha:a.length<=1000)(hb:b.length<=1000):lZ pr 163 [.sl (a.map i64),.sl (b.map i64)] (iR.d (a++b)):=by
 have h1:=Rx hp a (by simp[dB];omega);refine nh hp rfl ?_;have S:=aj.nil [];conv=>whnf
 refine dG S h1 rfl rfl fun A q1 F1 S1=>?_;conv=>whnf
 refine⟨trivial,?_⟩;conv=>whnf
 refine⟨_,rfl,KR b,?_⟩;refine kT (ys:=b) (aj.Rw S1) (by simp[bB];omega) fun D1 w1 Gh S2=>?_;conv=>whnf
 exact⟨_,rfl,_,_,_,rfl,(aj.kn S2).get 0 rfl,((aj.kn S2).get' 0 _ rfl).2⟩
def T5(a b:Int):Int:=IntKind.i64.wrap (a*b)
def z4(p q:Item):Item:=⟨p.row++q.row,T5 p.w q.w⟩
def jv(p:Item)(b:List Item)(x y:Int):List Item:=(b.filter fun q=>Ct p.row x==Ct q.row y).map (z4 p)
def jE(a b:List Item)(x y:Int):List Item:=a.flatMap fun p=>jv p b x y
def mj(a b:List Item)(x y:Int):Bool:=a.all fun p=>b.all fun q=>decide (x<p.row.length)&&decide (y<q.row.length)
theorem zi(p:Item)(b:List Item)(x y:Int):(jv p b x y).length<=b.length:=by
 unfold jv;rw[aat];exact abH _ _
theorem DV(a b:List Item)(x y:Int):(jE a b x y).length<=a.length*b.length:=by
 induction a with
 |nil=>simp[jE]
 |cons p a ih=>
  have:=zi p b x y;simp only[jE,List.flatMap_cons,abv,aak]at ih⊢;rw[Nat.succ_mul];omega
theorem Lk(a:List Item)(p:Item)(b:List Item)(x y:Int):jE (a++[p]) b x y=jE a b x y++jv p b x y:=by simp[jE]
theorem wV{p:Item}{b:List Item}{x y:Int}(hp:p.row.length<=6)(hb: ∀q∈b,q.row.length<=6): ∀z∈jv p b x y,z.row.length<=12:=fun z hz=>by
 obtain⟨q,hq,rfl⟩:=aaO.1 hz;have:=hb q (List.mem_filter.1 hq).1;simp only[z4,abv];omega
theorem BB{a b:List Item}{x y:Int}(ha: ∀p∈a,p.row.length<=6)(hb: ∀q∈b,q.row.length<=6): ∀z∈jE a b x y,z.row.length<=12:=fun z hz=>by
 obtain⟨p,hp,hz⟩:=List.mem_flatMap.1 hz;exact wV (ha p hp) hb z hz
theorem OK{a b:List Item}(ha:dS a=true)(hb:dS b=true)(x y:Int){i k:Nat}(hi:i<a.length):ij (jE (a.take i) b x y++jv a[i] (b.take k) x y)/\(jE (a.take i) b x y++jv a[i] (b.take k) x y).length<=10100:=by
 obtain⟨g1,g2⟩:=dA ha;obtain⟨g3,g4⟩:=dA hb;have h1:=DV (a.take i) b x y;have h2:=zi a[i] (b.take k) x y;have h3:(a.take i).length*b.length<=100*100:=Nat.mul_le_mul (by simp;omega) g3;have h4:(b.take k).length<=100:=by simp;omega
 have h5:(jE (a.take i) b x y++jv a[i] (b.take k) x y).length<=10100:=by rw[abv];omega
 refine⟨⟨by simp[dB];simp at h5;omega,fun z hz=>?_⟩,h5⟩
 have:z.row.length<=12:=by
  rcases aaS.1 hz with hz|hz
  ·exact BB (fun p hp=>g2 p (abz hp)) g4 z hz
  ·exact wV (g2 _ (aac hi)) (fun q hq=>g4 q (abz hq)) z hz
 simp[dB];omega
theorem BC(hp:cF pr)(a b:List Item)(x y:Int)(ha:dS a=true)(hb:dS b=true)(hx:0<=x)(hy:0<=y):
  ∃z,(mj a b x y=true->z=dt [] (jE a b x y))/\nc pr 155 [aI.enc a,aI.enc b,i64 x,i64 y] [aI.d z,.b (mj a b x y)]:=by
   obtain⟨g1,g2⟩:=dA ha;obtain⟨g3,g4⟩:=dA hb;have Pl:=fun(p q:Item)(h1:p∈a)(h2:q∈b)=>Lj hp p.row q.row (by have:=g2 p h1;omega) (by have:=g4 q h2;omega);have aQ:mj a b x y=mj a b x y:=rfl;conv at aQ=>rhs;unfold mj
   suffices hw:x9 (dZ pr) 155 [aI.enc a,aI.enc b,i64 x,i64 y] [] (fun r=>∃z vs h F,(mj a b x y=true->z=dt [] (jE a b x y))/\r= .ret (.eT vs) h/\cZ h [aI.d z,.b (mj a b x y)] vs F/\F.Nodup) by
    obtain⟨r,hr,z,vs,h,F,h0,rfl,h1,h2⟩:=dJ (hp.out _ rfl) hw;exact⟨z,h0,vs,h,F,hr,h1,h2⟩
   generalize mj a b x y=ok at aQ⊢;have S:=aj.nil [];conv=>whnf
   replace S:=aj.lJ 2 S;refine dQ (fun m tm hp=>∃(j:Nat)(D:af)(F:List Nat),j+m=a.length/\tm 10=D/\tm 11=i64 (j:Nat)/\aj hp [.jA 2 ((dt [] (jE (a.take j) b x y)).map Item.d) D F]/\((a.take j).all (fun p=>b.all fun q=>decide (x<p.row.length)&&decide (y<q.row.length))=true)) (fun mi U2 hq bG hI=>?_) (a.length) ⟨0,.nil,[],by simp,rfl,rfl,S,(rfl)⟩;obtain⟨i,D,F,hi,sq,Kr,S2,aF⟩:=hI;have k0:=bG 0 (by kernel_rfl);conv at k0=>rhs;whnf
   have k1:=bG 1 (by kernel_rfl);conv at k1=>rhs;whnf
   have k2:=bG 2 (by kernel_rfl);conv at k2=>rhs;whnf
   have k3:=bG 3 (by kernel_rfl);conv at k3=>rhs;whnf
   refine⟨[(0,_),(1,_),(2,_),(3,_),(10,_),(11,_)],⟨k0,k1,k2,k3,sq,Kr,trivial⟩,?_⟩;clear bG k0 k1 k2 k3 sq Kr;replace S:=S2;clear S2;conv=>whnf
   have xE:i<4611686018427387904:=by omega
   refine ae (fun h1=>?_) (fun h1=>?_)
   ·have nK:i<a.length:=by simpa using h1
    have Y3:(a.map Item.enc)[((i:Nat):Int).toNat]?=some (Item.enc a[i]):=by rw[aaa];simp[nK]
    have dN:=Lk (a.take i) a[i] b x y;rw[<-dX nK]at dN;have fP:=mS (fun p:Item=>b.all fun q=>decide (x<p.row.length)&&decide (y<q.row.length)) nK;have ig:=pj (Q:=fun p:Item=>b.all fun q=>decide (x<p.row.length)&&decide (y<q.row.length)) nK;have wW:=fun k=>OK ha hb x y (k:=k) nK;have hjr:=fun q=>Pl a[i] q (aac nK);have UQ:=g2 _ (aac nK);generalize a[i]=p at Y3 dN fP ig wW hjr UQ;obtain⟨row,w⟩:=p;rw[aF,aay]at fP;simp only at fP ig UQ;conv=>whnf
    have S':aj hq [.jA 2 ((dt [] (jE (a.take i) b x y++jv ⟨row,w⟩ (b.take 0) x y)).map Item.d) D F]:=by simpa[jv]using S
    replace S:=S';clear S';refine dQ (fun m tm hp=>∃(j:Nat)(D:af)(F:List Nat),j+m=b.length/\tm 10=D/\tm 12=i64 (j:Nat)/\aj hp [.jA 2 ((dt [] (jE (a.take i) b x y++jv ⟨row,w⟩ (b.take j) x y)).map Item.d) D F]/\((b.take j).all (fun q=>decide (x<row.length)&&decide (y<q.row.length))=true)) (fun m tm hq bG hI=>?_) (b.length) ⟨0,D,F,by simp,rfl,rfl,S,(rfl)⟩;obtain⟨j,D,F,hj,sq,Mr,S2,dR⟩:=hI;have k0:=bG 0 (by kernel_rfl);conv at k0=>rhs;whnf
    have k1:=bG 1 (by kernel_rfl);conv at k1=>rhs;whnf
    have k2:=bG 2 (by kernel_rfl);conv at k2=>rhs;whnf
    have k3:=bG 3 (by kernel_rfl);conv at k3=>rhs;whnf
    have Wl:=bG 11 (by kernel_rfl);conv at Wl=>rhs;whnf
    refine⟨[(0,_),(1,_),(2,_),(3,_),(11,_),(10,_),(12,_)],⟨k0,k1,k2,k3,Wl,sq,Mr,trivial⟩,?_⟩;clear bG k0 k1 k2 k3 Wl sq Mr;replace S:=S2;clear S2;conv=>whnf
    have gA:j<4611686018427387904:=by omega
    refine ae (fun h2=>?_) (fun h2=>?_)
    ·have bp:j<b.length:=by simpa using h2
     have dw:(b.map Item.enc)[((j:Nat):Int).toNat]?=some (Item.enc b[j]):=by rw[aaa];simp[bp]
     have Ry:=mS (fun q:Item=>decide (x<row.length)&&decide (y<q.row.length)) bp;have Rz:=pj (Q:=fun q:Item=>decide (x<row.length)&&decide (y<q.row.length)) bp
     have OL:jv ⟨row,w⟩ (b.take (j+1)) x y=if Ct row x==Ct b[j].row y then jv ⟨row,w⟩ (b.take j) x y++[z4 ⟨row,w⟩ b[j]]else jv ⟨row,w⟩ (b.take j) x y:=by
      unfold jv;rw[rQ _ bp];split<;>simp
     have uj:=wT (wW j).1;have Ge:=(wW j).2;have Wu:=hjr b[j] (aac bp);have hqr:=g4 _ (aac bp);generalize b[j]=q at dw Ry Rz OL Wu hqr;obtain⟨Ih,w2⟩:=q;rw[dR,aay]at Ry;simp only at Ry Rz OL Wu hqr;have U3:(decide (x<row.length)&&decide (y<Ih.length))=false->ok=false:=fun h=>by rw[aQ];exact ig (Rz h)
     conv=>whnf
     refine⟨_,Y3,by omega,rfl,?_⟩;conv=>whnf
     rw[aat];refine ae (fun h3=>?_) (fun h3=>?_)
     ·have:=U3 (by simp at h3;simp;omega);subst this;conv=>whnf
      exact⟨_,rfl,_,_,_,_,by simp,rfl,CN S false⟩
     ·have CB:x<row.length:=by simpa using h3
      have ha0:=rL hx CB;conv=>whnf
      refine⟨_,dw,by omega,rfl,?_⟩;conv=>whnf
      rw[aat];refine ae (fun h4=>?_) (fun h4=>?_)
      ·have:=U3 (by simp at h4;simp;omega);subst this;conv=>whnf
       exact⟨_,rfl,_,_,_,_,by simp,rfl,CN S false⟩
      ·have Yq:y<Ih.length:=by simpa using h4
       have Ux:=rL hy Yq;have Qe:(decide (x<row.length)&&decide (y<Ih.length))=true:=by simp[CB,Yq]
       conv=>whnf
       refine⟨_,Y3,by omega,rfl,?_⟩;conv=>whnf
       refine⟨_,ha0,hx,rfl,?_⟩;conv=>whnf
       refine⟨_,dw,by omega,rfl,?_⟩;conv=>whnf
       refine⟨_,Ux,hy,rfl,?_⟩;conv=>whnf
       refine ae (fun h5=>?_) (fun h5=>?_)
       ·rw[if_pos h5]at OL;conv=>whnf
        refine⟨_,Y3,by omega,rfl,?_⟩;conv=>whnf
        refine⟨_,dw,by omega,rfl,?_⟩;conv=>whnf
        refine fp S Wu rfl rfl fun A q1 F1 o1 S1=>?_;clear S;have S:=S1.swap;clear S1 o1;conv=>whnf
        refine⟨_,Y3,by omega,rfl,?_⟩;conv=>whnf
        refine⟨_,dw,by omega,rfl,?_⟩;conv=>whnf
        refine l8 hp _ (row++Ih) (T5 w w2) _ (by have:=uj.1;simp[dB];omega) uj.2 (by simp[dB];omega) S (fun h' S'=>iR.snap (S'.get 0 rfl)) fun v' h' F' S1=>?_;conv=>whnf
        exact⟨m-1,by omega,j+1,_,_,by omega,rfl,aP j gA,by rw[OL,<-abr,tY];exact S1.drop 1,by rw[Ry];exact Qe⟩
       ·rw[if_neg (by rw[h5];simp)]at OL;conv=>whnf
        exact⟨m-1,by omega,j+1,_,_,by omega,rfl,aP j gA,by rw[OL];exact S,by rw[Ry];exact Qe⟩
    ·have bp:j=b.length:=by
      have: ¬j<b.length:=by simpa using h2
      omega
     subst bp;rw[aar]at S dR;conv=>whnf
     exact⟨mi-1,by omega,i+1,_,_,by omega,rfl,aP i xE,by rw[dN];exact S,by rw[fP];exact dR⟩
   ·have nK:i=a.length:=by
     have: ¬i<a.length:=by simpa using h1
     omega
    subst nK;rw[aar]at S aF;rw[aF]at aQ;subst aQ;conv=>whnf
    exact⟨_,rfl,_,_,_,_,fun _=>rfl,rfl,CN S true⟩
theorem ye{a b:List Item}(ha:dS a=true)(hb:dS b=true)(x y:Int):ij (dt [] (jE a b x y))/\(dt [] (jE a b x y)).length<=10000:=by
 obtain⟨g1,g2⟩:=dA ha;obtain⟨g3,g4⟩:=dA hb;have h1:=DV a b x y;have h3:a.length*b.length<=100*100:=Nat.mul_le_mul g1 g3;have h4:ij (jE a b x y):=⟨by simp[dB];omega,fun z hz=>by have:=BB g2 g4 z hz;simp[dB];omega⟩;have h5:=wT h4;exact⟨⟨by simp[dB];omega,h5.2⟩,by omega⟩
def jw(a da b db:List Item)(x y:Int):Option (List Item):=
 if dS a&&(dS da&&(dS b&&(dS db&&(col x 6&&(col y 6&&(mj da b x y&&(mj a db x y&&mj da db x y)))))))then
  qf (dt (dt (dt [] (jE da b x y)) (dt [] (jE a db x y))) (dt [] (jE da db x y)))
 else none
theorem Fv(hp:cF pr)(a da b db:List Item)(x y:Int)(ha:ij a)(ZX:ij da)(hb:ij b)(ZY:ij db):
  nc pr 146 [aI.enc a,aI.enc da,aI.enc b,aI.enc db,i64 x,i64 y] [aI.d (pQ (jw a da b db x y)).1,.b (pQ (jw a da b db x y)).2]:=by
   have h1:=iU hp a ha;have h2:=iU hp da ZX;have h3:=iU hp b hb;have h4:=iU hp db ZY;have h5:=kS hp x 6;have h6:=kS hp y 6;have aQ:jw a da b db x y=jw a da b db x y:=rfl;conv at aQ=>rhs;unfold jw
   generalize jw a da b db x y=res at aQ⊢;refine gT hp rfl ?_;have S:=aj.nil [];conv=>whnf
   refine⟨_,h1 _,?_⟩;conv=>whnf
   refine ae (fun g1=>?_) (fun g1=>?_)
   rotate_left
   ·have jk:res=none:=by rw[aQ,if_neg];simp[g1]
    subst jk;conv=>whnf
    exact⟨_,rfl,_,_,_,rfl,kJ _⟩
   conv=>whnf
   refine⟨_,h2 _,?_⟩;conv=>whnf
   refine ae (fun g2=>?_) (fun g2=>?_)
   rotate_left
   ·have jk:res=none:=by rw[aQ,if_neg];simp[g2]
    subst jk;conv=>whnf
    exact⟨_,rfl,_,_,_,rfl,kJ _⟩
   conv=>whnf
   refine⟨_,h3 _,?_⟩;conv=>whnf
   refine ae (fun g3=>?_) (fun g3=>?_)
   rotate_left
   ·have jk:res=none:=by rw[aQ,if_neg];simp[g3]
    subst jk;conv=>whnf
    exact⟨_,rfl,_,_,_,rfl,kJ _⟩
   conv=>whnf
   refine⟨_,h4 _,?_⟩;conv=>whnf
   refine ae (fun g4=>?_) (fun g4=>?_)
   rotate_left
   ·have jk:res=none:=by rw[aQ,if_neg];simp[g4]
    subst jk;conv=>whnf
    exact⟨_,rfl,_,_,_,rfl,kJ _⟩
   conv=>whnf
   refine⟨_,h5 _,?_⟩;conv=>whnf
   refine ae (fun g5=>?_) (fun g5=>?_)
   rotate_left
   ·have jk:res=none:=by rw[aQ,if_neg];simp[g5]
    subst jk;conv=>whnf
    exact⟨_,rfl,_,_,_,rfl,kJ _⟩
   conv=>whnf
   refine⟨_,h6 _,?_⟩;conv=>whnf
   refine ae (fun g6=>?_) (fun g6=>?_)
   rotate_left
   ·have jk:res=none:=by rw[aQ,if_neg];simp[g6]
    subst jk;conv=>whnf
    exact⟨_,rfl,_,_,_,rfl,kJ _⟩
   conv=>whnf
   clear h1 h2 h3 h4 h5 h6;rw[g1,g2,g3,g4,g5,g6]at aQ;simp only[aay]at aQ;have hx:0<=x:=by simp[col]at g5;omega
   have hy:0<=y:=by simp[col]at g6;omega
   obtain⟨z1,e1,c1⟩:=BC hp da b x y g2 g3 hx hy;obtain⟨z2,e2,c2⟩:=BC hp a db x y g1 g4 hx hy;obtain⟨z3,e3,c3⟩:=BC hp da db x y g2 g4 hx hy;obtain⟨s1,l1⟩:=ye g2 g3 x y;obtain⟨s2,l2⟩:=ye g1 g4 x y;obtain⟨s3,l3⟩:=ye g2 g4 x y;generalize mj da b x y=o1 at aQ e1 c1;generalize mj a db x y=o2 at aQ e2 c2;generalize mj da db x y=o3 at aQ e3 c3;generalize dt [] (jE da b x y)=w1 at aQ e1 s1 l1;generalize dt [] (jE a db x y)=w2 at aQ e2 s2 l2;generalize dt [] (jE da db x y)=w3 at aQ e3 s3 l3;have f1:=gx (a:=w1) (b:=w2) s1.2 s2.2;have s4:ij (dt w1 w2):=⟨by simp[dB];omega,f1.2⟩;have f2:=gx (a:=dt w1 w2) (b:=w3) s4.2 s3.2;have s5:ij (dt (dt w1 w2) w3):=⟨by simp[dB];omega,f2.2⟩;have d1:=l9 hp w1 w2 s1 s2 (by simp[dB];omega);have d2:=l9 hp (dt w1 w2) w3 s4 s3 (by simp[dB];omega);clear f1 f2 l1 l2 l3;cases o1<;>cases o2<;>cases o3
   all_goals
    refine iG S c1 rfl rfl fun vs q1 F1 S1=>?_;obtain⟨v1,F2,rfl,S2⟩:=aj.lC S1;conv=>whnf
    refine iG S2 c2 rfl rfl fun vs q2 F3 S3=>?_;obtain⟨v2,F4,rfl,S4⟩:=aj.lC S3;conv=>whnf
    refine iG S4 c3 rfl rfl fun vs q3 F5 S5=>?_;obtain⟨v3,F6,rfl,S6⟩:=aj.lC S5;conv=>whnf
    try(first|(have jk:res=none:=aQ
               subst jk;exact⟨_,rfl,_,_,_,rfl,kJ _⟩))
   rw[e1 rfl]at S6;rw[e2 rfl]at S6;rw[e3 rfl]at S6;refine dG S6 d1 rfl (lj (aI.iT (S6.get 2 rfl)) (aI.iT (S6.get 1 rfl))) fun v4 q4 F7 S7=>?_;conv=>whnf
   refine dG S7 d2 rfl (lj (qQ S7) (aI.iT (S7.get 1 rfl))) fun v5 q5 F8 S8=>?_;conv=>whnf
   refine qR hp s5 S8 (fun g=>?_) (fun g=>?_)
   ·have jk:=aQ.trans (pk g);subst jk;conv=>whnf
    exact⟨_,rfl,_,_,_,rfl,CN S8 true⟩
   ·have jk:=aQ.trans (po g);subst jk;conv=>whnf
    exact⟨_,rfl,_,_,_,rfl,kJ _⟩
def keyOf(r aq:List Int):List Int:=aq.map (Ct r)
theorem z5(hp:cF pr)(r aq:List Int)(hk: ∀k∈aq,0<=k/\k<r.length)(hl:aq.length<=100):u0 pr 164 [.sl (r.map i64),.sl (aq.map i64)] 1 ((keyOf r aq).map bg.i):=by
 refine s9 hp rfl ?_;have S:=aj.nil [];conv=>whnf
 replace S:=aj.nF i64 1 S;refine dQ (fun m tm hp=>∃(j:Nat)(D:af),j+m=aq.length/\tm 5=D/\tm 6=i64 (j:Nat)/\aj hp [.acc i64 1 (keyOf r (aq.take j)) D]) (fun m tm hq bG hI=>?_) (aq.length) ⟨0,.nil,by simp,rfl,rfl,S⟩;obtain⟨j,D,hj,e5,e6,S2⟩:=hI;have k0:=bG 0 (by kernel_rfl);conv at k0=>rhs;whnf
 have k1:=bG 1 (by kernel_rfl);conv at k1=>rhs;whnf
 refine⟨[(0,_),(1,_),(5,_),(6,_)],⟨k0,k1,e5,e6,trivial⟩,?_⟩;clear bG k0 k1 e5 e6;replace S:=S2;clear S2;conv=>whnf
 have gA:j<4611686018427387904:=by omega
 refine ae (fun h1=>?_) (fun h1=>?_)
 ·have bp:j<aq.length:=by simpa using h1
  have dw:(aq.map i64)[((j:Nat):Int).toNat]?=some (i64 aq[j]):=by rw[aaa];simp[bp]
  have dN:keyOf r (aq.take (j+1))=keyOf r (aq.take j)++[Ct r aq[j]]:=kP (Ct r) bp;have RA:=hk _ (aac bp);have hlen:(keyOf r (aq.take j)).length<=100:=by simp[keyOf];omega
  generalize aq[j]=k at dw dN RA;have ZZ:=rL RA.1 RA.2;conv=>whnf
  refine⟨_,dw,by omega,rfl,?_⟩;conv=>whnf
  refine⟨_,ZZ,RA.1,rfl,?_⟩;conv=>whnf
  intro pI pJ dT dU;replace S:=S.alloc dT dU;conv=>whnf
  refine⟨trivial,?_⟩;conv=>whnf
  refine⟨[_],bT (S.row 0 rfl),dI rfl rfl,?_⟩;replace S:=S.drop 0;dsimp only[List.eraseIdx]at S;refine qp (f:=i64) (x:=Ct r k) S (by simp[bB];omega) fun k2 h2 S2 _=>?_;conv=>whnf
  exact⟨m-1,by omega,j+1,_,by omega,rfl,aP j gA,by rw[dN];exact S2⟩
 ·have bp:j=aq.length:=by
   have: ¬j<aq.length:=by simpa using h1
   omega
  subst bp;rw[aar]at S;conv=>whnf
  exact⟨_,rfl,_,_,_,rfl,(aj.Fu S).get 0 rfl,((aj.Fu S).get' 0 _ rfl).2⟩
def rR(agg v w n:Int)(first:Bool):Int:=
 if agg=0 then lK n w else if agg=1 then lK n (T5 w v)else if first||(agg==2&&decide (v<n)||agg==3&&decide (v>n))then v else n
def zj(agg c:Int):Bool->Int->List Item->Int
 |_,n,[]=>n
 |first,n,x::xs=>zj agg c false (rR agg (Ct x.row c) x.w n first) xs
theorem T6(hp:cF pr)(z:List Item)(agg c:Int)(hz:z.length<=dB)(hc: ∀x∈z,0<=c/\c<x.row.length):dK pr 165 [aI.enc z,i64 agg,i64 c] (i64 (zj agg c true 0 z)):=by
 generalize aQ:zj agg c true 0 z=res;refine kz hp rfl rfl ?_;have S:=aj.nil [];conv=>whnf
 refine dQ (fun m tm hp=>∃(j:Nat)(n:Int),j+m=z.length/\tm 7=i64 n/\tm 8=i64 (j:Nat)/\(res=zj agg c (j==0) n (z.drop j))) (fun m tm hq bG hI=>?_) (z.length) ⟨0,0,by simp,rfl,rfl,(aQ.symm)⟩;obtain⟨j,n,hj,e7,e8,aF⟩:=hI;have k0:=bG 0 (by kernel_rfl);conv at k0=>rhs;whnf
 have k1:=bG 1 (by kernel_rfl);conv at k1=>rhs;whnf
 have k2:=bG 2 (by kernel_rfl);conv at k2=>rhs;whnf
 refine⟨[(0,_),(1,_),(2,_),(7,_),(8,_)],⟨k0,k1,k2,e7,e8,trivial⟩,?_⟩;clear bG k0 k1 k2 e7 e8;have S:aj hq []:=aj.nil hq;conv=>whnf
 have gA:j<4611686018427387904:=by simp[dB]at hz;omega
 refine ae (fun h1=>?_) (fun h1=>?_)
 ·have bp:j<z.length:=by simpa using h1
  have dw:(z.map Item.enc)[((j:Nat):Int).toNat]?=some (Item.enc z[j]):=by rw[aaa];simp[bp]
  rw[aaf bp]at aF;have Db:=hc _ (aac bp);generalize z[j]=x at dw aF Db;obtain⟨row,w⟩:=x;replace aF:res=zj agg c false (rR agg (Ct row c) w n (j==0)) (z.drop (j+1)):=aF;simp only at Db;have ZZ:=rL Db.1 Db.2;have ir: ∀n',n'=rR agg (Ct row c) w n (j==0)->res=zj agg c (j+1==0) n' (z.drop (j+1)):=fun n' e=>by rw[e,aF];rfl
  clear aF;have hj0:(((j:Nat):Int)==0)=(j==0):=by cases j<;>rfl
  generalize hv:Ct row c=v at ZZ ir;conv=>whnf
  refine⟨_,dw,by omega,rfl,?_⟩;conv=>whnf
  refine⟨_,ZZ,Db.1,rfl,?_⟩;conv=>whnf
  refine ae (fun a0=>?_) (fun a0=>?_)
  ·have a0:agg=0:=by simpa using a0
   conv=>whnf
   refine⟨_,dw,by omega,rfl,?_⟩;conv=>whnf
   exact⟨m-1,by omega,j+1,lK n w,by omega,rfl,aP j gA,ir _ (by simp[rR,a0])⟩
  ·have a0: ¬agg=0:=by simpa using a0
   conv=>whnf
   refine ae (fun a1=>?_) (fun a1=>?_)
   ·have a1:agg=1:=by simpa using a1
    conv=>whnf
    refine⟨_,dw,by omega,rfl,?_⟩;conv=>whnf
    exact⟨m-1,by omega,j+1,lK n (T5 w v),by omega,rfl,aP j gA,ir _ (by simp[rR,a1])⟩
   ·have a1: ¬agg=1:=by simpa using a1
    iterate 8
     all_goals(try(conv=>whnf))
     all_goals(first|(intro iK cp ee bf;replace S:=S.alloc ee bf)|(refine ae (fun hb=>?_) (fun hb=>?_))|skip)
    all_goals(try(conv=>whnf))
    all_goals first
     |exact⟨m-1,by omega,j+1,v,by omega,rfl,aP j gA,ir _ (by simp only[rR,a0,a1,if_false];first|(simp_all;done)|(simp_all;omega))⟩
     |exact⟨m-1,by omega,j+1,n,by omega,rfl,aP j gA,ir _ (by simp only[rR,a0,a1,if_false];first|(simp_all;done)|(simp_all;omega))⟩
 ·have bp:j=z.length:=by
   have: ¬j<z.length:=by simpa using h1
   omega
  subst bp;rw[aal]at aF;conv=>whnf
  exact eJ aF.symm
def wX(z:List Item)(aq:List Int)(c:Int):Bool:=z.all fun x=>eU aq x.row.length&&col c x.row.length
theorem BD(hp:cF pr)(z:List Item)(aq:List Int)(c:Int)(hz:z.length<=dB)(hl:aq.length<=1048576):dK pr 158 [aI.enc z,.sl (aq.map i64),i64 c] (.bool (wX z aq c)):=by
 have h2:=fun wide=>m9 hp aq wide hl;have h3:=fun wide=>kS hp c wide;have aQ:wX z aq c=wX z aq c:=rfl;conv at aQ=>rhs;unfold wX
 generalize wX z aq c=res at aQ⊢;refine kz hp rfl rfl ?_;have S:=aj.nil [];conv=>whnf
 refine dQ (fun m tm hp=>∃(j:Nat),j+m=z.length/\tm 7=i64 (j:Nat)/\((z.take j).all (fun x=>eU aq x.row.length&&col c x.row.length)=true)) (fun m tm hq bG hI=>?_) (z.length) ⟨0,by simp,rfl,(rfl)⟩;obtain⟨j,hj,e7,aF⟩:=hI;have k0:=bG 0 (by kernel_rfl);conv at k0=>rhs;whnf
 have k1:=bG 1 (by kernel_rfl);conv at k1=>rhs;whnf
 have k2:=bG 2 (by kernel_rfl);conv at k2=>rhs;whnf
 refine⟨[(0,_),(1,_),(2,_),(7,_)],⟨k0,k1,k2,e7,trivial⟩,?_⟩;clear bG k0 k1 k2 e7;have S:aj hq []:=aj.nil hq;conv=>whnf
 have gA:j<4611686018427387904:=by simp[dB]at hz;omega
 refine ae (fun h1=>?_) (fun h1=>?_)
 ·have bp:j<z.length:=by simpa using h1
  have dw:(z.map Item.enc)[((j:Nat):Int).toNat]?=some (Item.enc z[j]):=by rw[aaa];simp[bp]
  have fP:=mS (fun x:Item=>eU aq x.row.length&&col c x.row.length) bp;have ig:=pj (Q:=fun x:Item=>eU aq x.row.length&&col c x.row.length) bp;generalize z[j]=x at dw fP ig;obtain⟨row,w⟩:=x;rw[aF,aay]at fP;simp only at fP ig;conv=>whnf
  refine⟨_,dw,by omega,rfl,?_⟩;conv=>whnf
  rw[aat];refine⟨_,h2 _ _,?_⟩;conv=>whnf
  refine ae (fun g2=>?_) (fun g2=>?_)
  ·conv=>whnf
   refine⟨_,dw,by omega,rfl,?_⟩;conv=>whnf
   rw[aat];refine⟨_,h3 _ _,?_⟩;conv=>whnf
   refine ae (fun g3=>?_) (fun g3=>?_)
   ·conv=>whnf
    exact⟨m-1,by omega,j+1,by omega,aP j gA,by rw[fP,g2,g3];rfl⟩
   ·conv=>whnf
    exact br (by rw[aQ,ig (by rw[g2,g3];rfl)])
  ·conv=>whnf
   exact br (by rw[aQ,ig (by rw[g2];rfl)])
 ·have bp:j=z.length:=by
   have: ¬j<z.length:=by simpa using h1
   omega
  subst bp;rw[aar]at aF;conv=>whnf
  exact br (by rw[aQ,aF])
def RB(z:List Item)(aq key:List Int):List Item:=z.filter fun x=>decide (0<x.w)&&fL (keyOf x.row aq) key
theorem wY{h:aG}{L:List Chunk}{xs:List Int}{v:af}{F:List Nat}(S:aj h (.jA 1 (xs.map bg.i) v F::L)):Am.snap h v=some (.sl (xs.map i64)):=iR.snap ((aj.ek S).get 0 rfl)
theorem Wv(hp:cF pr)(z:List Item)(aq key:List Int)(kv:af)(hz:z.length<=dB)(hk: ∀x∈z,∀k∈aq,0<=k/\k<x.row.length)(hl:aq.length<=100)(sd:key.length<=100){h:aG}{L:List Chunk}(S:aj h L)
  (hkv: ∀h',aj h' L->Am.snap h' kv=some (.sl (key.map i64))) {K:ef->Prop} (hK: ∀v h',aj h' (.acc Item.enc 2 (RB z aq key) v::L)->K (.ret v h')):
  ∃r,cj (dZ pr) (call (dZ pr)) 166 [aI.enc z,.sl (aq.map i64),kv] h=some r/\K r:=by
   rw[nN rfl];refine dJ (hp.out _ rfl) ?_;conv=>whnf
   replace S:=aj.nF Item.enc 2 S;refine dQ (fun m tm hp=>∃(j:Nat)(D:af),j+m=z.length/\tm 7=D/\tm 8=i64 (j:Nat)/\aj hp (.acc Item.enc 2 (RB (z.take j) aq key) D::L)) (fun m tm hq bG hI=>?_) (z.length) ⟨0,.nil,by simp,rfl,rfl,S⟩;obtain⟨j,D,hj,e7,e8,S2⟩:=hI;have k0:=bG 0 (by kernel_rfl);conv at k0=>rhs;whnf
   have k1:=bG 1 (by kernel_rfl);conv at k1=>rhs;whnf
   have k2:=bG 2 (by kernel_rfl);conv at k2=>rhs;whnf
   refine⟨[(0,_),(1,_),(2,_),(7,_),(8,_)],⟨k0,k1,k2,e7,e8,trivial⟩,?_⟩;clear bG k0 k1 k2 e7 e8;replace S:=S2;clear S2;conv=>whnf
   have gA:j<4611686018427387904:=by simp[dB]at hz;omega
   refine ae (fun h1=>?_) (fun h1=>?_)
   ·have bp:j<z.length:=by simpa using h1
    have dw:(z.map Item.enc)[((j:Nat):Int).toNat]?=some (Item.enc z[j]):=by rw[aaa];simp[bp]
    have dN:RB (z.take (j+1)) aq key=if decide (0<z[j].w)&&fL (keyOf z[j].row aq) key then RB (z.take j) aq key++[z[j]]else RB (z.take j) aq key:=rQ _ bp
    have hlen:(RB (z.take j) aq key).length<=z.length:=aa3 (abH _ _) (by simp;omega);have NW:=z5 hp z[j].row aq (hk _ (aac bp)) hl;generalize z[j]=x at dw dN NW;obtain⟨row,w⟩:=x;simp only at dN NW;have pY:=pe hp (keyOf row aq) key (by simp[keyOf,dB];omega) (by simp[dB];omega);conv=>whnf
    refine⟨_,dw,by omega,rfl,?_⟩;conv=>whnf
    refine ae (fun g1=>?_) (fun g1=>?_)
    ·have Y4:decide (0<w)=true:=by simpa using g1
     rw[Y4,aay]at dN;conv=>whnf
     refine⟨_,dw,by omega,rfl,?_⟩;conv=>whnf
     refine dG S NW rfl rfl fun A q1 F1 S1=>?_;clear S;conv=>whnf
     have hq:=pY.here (args:=[A,kv]) (lj (wY S1) (hkv _ ((S1.drop 0).drop 0))) rfl rfl;refine⟨_,hq,?_⟩;clear hq;have S:=S1.drop 0;dsimp only[List.eraseIdx]at S;clear S1;conv=>whnf
     refine ae (fun g2=>?_) (fun g2=>?_)
     ·rw[if_pos g2]at dN;conv=>whnf
      refine⟨_,dw,by omega,rfl,?_⟩;conv=>whnf
      intro pI pJ dT dU;replace S:=S.alloc dT dU;conv=>whnf
      refine⟨trivial,?_⟩;conv=>whnf
      refine⟨[_],bT (S.row 0 rfl),fi rfl rfl,?_⟩;replace S:=S.drop 0;dsimp only[List.eraseIdx]at S;refine qp (f:=Item.enc) (x:=⟨row,w⟩) S (by simp[bB,dB]at*;omega) fun k2 h2 S2 _=>?_;conv=>whnf
      exact⟨m-1,by omega,j+1,_,by omega,rfl,aP j gA,by rw[dN];exact S2⟩
     ·rw[if_neg (by rw[g2];simp)]at dN;conv=>whnf
      exact⟨m-1,by omega,j+1,_,by omega,rfl,aP j gA,by rw[dN];exact S⟩
    ·have Y4:decide (0<w)=false:=by simpa using g1
     rw[Y4,Bool.false_and,if_neg (by simp)]at dN;conv=>whnf
     exact⟨m-1,by omega,j+1,_,by omega,rfl,aP j gA,by rw[dN];exact S⟩
   ·have bp:j=z.length:=by
     have: ¬j<z.length:=by simpa using h1
     omega
    subst bp;rw[aar]at S;conv=>whnf
    exact⟨_,rfl,hK _ _ S⟩
theorem OM{h:aG}{L:List Chunk}{z:List Item}{v:af}(S:aj h (.acc Item.enc 2 z v::L)):Am.snap h v=some (aI.enc z):=by
 have h0:oW Item.enc 2 h z v:=S.get 0 rfl;rcases h0 with⟨rfl,rfl⟩|⟨id,rfl,h1⟩
 ·rfl
 ·have:=qG (es:=z.map Item.enc) h1 (fun x hx=>by obtain⟨y,_,rfl⟩:=aaO.1 hx;rfl);rw[aat]at this;exact this
def yf(z:List Item)(aq:List Int)(agg c:Int)(x:Item):Int:=zj agg c true 0 (RB z aq (keyOf x.row aq))
def eS(z:List Item)(aq:List Int)(agg c:Int)(acc:List Item)(x:Item):List Item:=
 if decide (x.w<0)then acc else if Li acc (keyOf x.row aq++[yf z aq agg c x])==0 then hY acc (keyOf x.row aq++[yf z aq agg c x]) 1 else acc
def tg(z:List Item)(aq:List Int)(agg c:Int)(x:Item):Bool:=decide (x.w<0)||bQ (yf z aq agg c x)
def mn(z:List Item)(aq:List Int)(agg c:Int):Option (List Item):=
 if dS z&&(decide (0<=agg)&&(decide (agg<=3)&&(eU aq 6&&wX z aq c)))&&z.all (tg z aq agg c)then qf (z.foldl (eS z aq agg c) [])else none
theorem rS{z:List Item}{aq:List Int}{agg c:Int}(hl:aq.length<=100): ∀(l:List Item)(acc:List Item),(∀x∈acc,x.row.length<=dB)->(l.foldl (eS z aq agg c) acc).length<=acc.length+l.length/\ ∀x∈l.foldl (eS z aq agg c) acc,x.row.length<=dB
 | [],acc,h=>⟨by simp,h⟩
 |y::l,acc,h=>by
  have h1:(eS z aq agg c acc y).length<=acc.length+1/\ ∀x∈eS z aq agg c acc y,x.row.length<=dB:=by
   unfold eS
   repeat' split
   ·exact⟨by omega,h⟩
   ·exact⟨wL _ _ _,Iq h (by simp[keyOf,dB];omega)⟩
   ·exact⟨by omega,h⟩
  have h2:=rS (z:=z) (agg:=agg) (c:=c) hl l _ h1.2;simp only[List.foldl_cons,aak];exact⟨by omega,h2.2⟩
theorem Ll{α β:Type}(f:β->α->β)(b:β){z:List α}{j:Nat}(h:j<z.length):(z.take (j+1)).foldl f b=f ((z.take j).foldl f b) z[j]:=by
 rw[dX h,List.foldl_append];rfl
theorem tZ{aq:List Int}{n:Int}(h:eU aq n=true):(∀k∈aq,0<=k/\k<n)/\aq.length<6:=by
 unfold eU at h;simp only[xz,decide_eq_true_iff]at h;refine⟨?_,h.2⟩
 have key: ∀(ks pre:List Int),ld pre n ks=true-> ∀k∈ks,0<=k/\k<n:=by
  intro ks
  induction ks with
  |nil=>intro pre _ k hk;simp at hk
  |cons x xs ih=>
   intro pre hx k hk;simp only[ld,xz]at hx;rcases aaz.1 hk with rfl|hk
   ·have:=hx.1;simp[col]at this;omega
   ·exact ih _ (by first|exact hx.2|exact hx.2.2) k hk
 exact key aq [] h.1
theorem BF(hp:cF pr)(z:List Item)(aq:List Int)(agg c:Int)(hz:ij z)(sd:aq.length<=1048576):nc pr 159 [aI.enc z,.sl (aq.map i64),i64 agg,i64 c] [aI.d (pQ (mn z aq agg c)).1,.b (pQ (mn z aq agg c)).2]:=by
 have h1:=iU hp z hz;have h2:=m9 hp aq 6 sd;have h3:=BD hp z aq c hz.1 sd;have sI:=fun n=>wx hp n;have aQ:mn z aq agg c=mn z aq agg c:=rfl;conv at aQ=>rhs;unfold mn
 generalize mn z aq agg c=res at aQ⊢;refine gT hp rfl ?_;have S:=aj.nil [];conv=>whnf
 refine⟨_,h1 _,?_⟩;conv=>whnf
 refine ae (fun g1=>?_) (fun g1=>?_)
 rotate_left
 ·have jk:res=none:=by rw[aQ,if_neg];simp[g1]
  subst jk;conv=>whnf
  exact⟨_,rfl,_,_,_,rfl,kJ _⟩
 conv=>whnf
 refine ae (fun g2=>?_) (fun g2=>?_)
 ·have jk:res=none:=by rw[aQ,if_neg];simp at g2;simp;omega
  subst jk;conv=>whnf
  exact⟨_,rfl,_,_,_,rfl,kJ _⟩
 conv=>whnf
 refine ae (fun g3=>?_) (fun g3=>?_)
 ·have jk:res=none:=by rw[aQ,if_neg];simp at g3;simp;omega
  subst jk;conv=>whnf
  exact⟨_,rfl,_,_,_,rfl,kJ _⟩
 conv=>whnf
 refine⟨_,h2 _,?_⟩;conv=>whnf
 refine ae (fun g4=>?_) (fun g4=>?_)
 rotate_left
 ·have jk:res=none:=by rw[aQ,if_neg];simp[g4]
  subst jk;conv=>whnf
  exact⟨_,rfl,_,_,_,rfl,kJ _⟩
 conv=>whnf
 refine⟨_,h3 _,?_⟩;conv=>whnf
 refine ae (fun g5=>?_) (fun g5=>?_)
 rotate_left
 ·have jk:res=none:=by rw[aQ,if_neg];simp[g5]
  subst jk;conv=>whnf
  exact⟨_,rfl,_,_,_,rfl,kJ _⟩
 rw[g1,g4,g5]at aQ;have e2:decide (0<=agg)=true:=by simp at g2;simp;omega
 have e3:decide (agg<=3)=true:=by simp at g3;simp;omega
 rw[e2,e3]at aQ;simp only[aay]at aQ;obtain⟨-,k6⟩:=tZ g4
 have Ww: ∀x∈z,(∀k∈aq,0<=k/\k<x.row.length)/\0<=c/\c<x.row.length:=fun x hx=>by
  have:=aaj.1 g5 x hx;simp only[xz]at this;exact⟨(tZ this.1).1,by have:=this.2;simp[col]at this;omega⟩
 have Ge:=(dA g1).1
 have Fx: ∀key kv(h:aG)(L:List Chunk)(K:ef->Prop),key.length<=100->aj h L->(∀h',aj h' L->Am.snap h' kv=some (.sl (key.map i64)))->(∀v h',aj h' (.acc Item.enc 2 (RB z aq key) v::L)->K (.ret v h'))->
   ∃r,cj (dZ pr) (call (dZ pr)) 166 [aI.enc z,.sl (aq.map i64),kv] h=some r/\K r:=fun key kv h L K sd S hs hK=>
    Wv hp z aq key kv hz.1 (fun x hx=>(Ww x hx).1) (by omega) sd S hs hK
 have Vq:=fun key=>T6 hp (RB z aq key) agg c (by
  have:(RB z aq key).length<=z.length:=abH _ _;simp[dB];omega) (fun x hx=>(Ww x (List.mem_filter.1 hx).1).2)
 clear h1 h2 h3 g2 g3 e2 e3;conv=>whnf
 replace S:=aj.lJ 2 S;refine dQ (fun m tm hp=>∃(j:Nat)(D:af)(F:List Nat),j+m=z.length/\tm 10=D/\tm 11=i64 (j:Nat)/\aj hp [.jA 2 (((z.take j).foldl (eS z aq agg c) []).map Item.d) D F]/\((z.take j).all (tg z aq agg c)=true)) (fun m tm hq bG hI=>?_) (z.length) ⟨0,.nil,[],by simp,rfl,rfl,S,(rfl)⟩;obtain⟨j,D,F,hj,sq,Kr,S2,aF⟩:=hI;have k0:=bG 0 (by kernel_rfl);conv at k0=>rhs;whnf
 have k1:=bG 1 (by kernel_rfl);conv at k1=>rhs;whnf
 have k2:=bG 2 (by kernel_rfl);conv at k2=>rhs;whnf
 have k3:=bG 3 (by kernel_rfl);conv at k3=>rhs;whnf
 refine⟨[(0,_),(1,_),(2,_),(3,_),(10,_),(11,_)],⟨k0,k1,k2,k3,sq,Kr,trivial⟩,?_⟩;clear bG k0 k1 k2 k3 sq Kr;replace S:=S2;clear S2;conv=>whnf
 have gA:j<4611686018427387904:=by omega
 refine ae (fun h1=>?_) (fun h1=>?_)
 ·have bp:j<z.length:=by simpa using h1
  have dw:(z.map Item.enc)[((j:Nat):Int).toNat]?=some (Item.enc z[j]):=by rw[aaa];simp[bp]
  have dN:=Ll (eS z aq agg c) [] bp;have fP:=mS (tg z aq agg c) bp;have ig:=pj (Q:=tg z aq agg c) bp;have jP:=rS (z:=z) (agg:=agg) (c:=c) (aq:=aq) (by omega) (z.take j) [] (by simp);have Gt:(z.take j).length<=100:=by simp;omega
  have NW:=z5 hp z[j].row aq (Ww _ (aac bp)).1 (by omega);generalize z[j]=x at dw dN fP ig NW;obtain⟨row,w⟩:=x;rw[aF,aay]at fP;have RA:(keyOf row aq).length<=6:=by simp[keyOf];omega
  unfold eS at dN;have ZP:tg z aq agg c ⟨row,w⟩=(decide (w<0)||bQ (yf z aq agg c ⟨row,w⟩)):=rfl;rw[ZP]at fP ig;clear ZP;have hn:yf z aq agg c ⟨row,w⟩=zj agg c true 0 (RB z aq (keyOf row aq)):=rfl;have hA:=Vq (keyOf row aq);rw[<-hn]at hA;have hO:=Fx (keyOf row aq);generalize yf z aq agg c ⟨row,w⟩=n at dN fP ig hA hn;simp only at dN fP ig NW;have T7:ij ((z.take j).foldl (eS z aq agg c) [])/\((z.take j).foldl (eS z aq agg c) []).length<=100:=⟨⟨by simp[dB];simp at jP;omega,jP.2⟩,by simp at jP;omega⟩;clear jP aF hn;replace dN:(z.take (j+1)).foldl (eS z aq agg c) []=if decide (w<0)then(z.take j).foldl (eS z aq agg c) []else if Li ((z.take j).foldl (eS z aq agg c) []) (keyOf row aq++[n])==0 then hY ((z.take j).foldl (eS z aq agg c) []) (keyOf row aq++[n]) 1 else(z.take j).foldl (eS z aq agg c) []:=dN
  generalize(z.take j).foldl (eS z aq agg c) []=acc at dN T7 S;have sf:=T4 hp acc (keyOf row aq++[n]) T7.1 (by simp[dB];omega);conv=>whnf
  refine⟨_,dw,by omega,rfl,?_⟩;conv=>whnf
  refine ae (fun g6=>?_) (fun g6=>?_)
  ·rw[if_pos (by simpa using g6)]at dN;conv=>whnf
   exact⟨m-1,by omega,j+1,_,_,by omega,rfl,aP j gA,by rw[dN];exact S,by rw[fP];simp at g6;simp[g6]⟩
  rw[if_neg (by simpa using g6)]at dN;conv=>whnf
  refine⟨_,dw,by omega,rfl,?_⟩;conv=>whnf
  refine dG S NW rfl rfl fun A q1 F1 S1=>?_;clear S;conv=>whnf
  refine hO A _ _ _ (by omega) S1 (fun h' S'=>wY S') (fun v2 Dc S2=>?_);clear S1;conv=>whnf
  have hq:=hA.here (args:=[v2,i64 agg,i64 c]) (bu (OM S2) rfl) rfl rfl;refine⟨_,hq,?_⟩;clear hq;have S:=S2.drop 0;dsimp only[List.eraseIdx]at S;clear S2;conv=>whnf
  refine⟨_,sI _ _,?_⟩;conv=>whnf
  refine ae (fun g7=>?_) (fun g7=>?_)
  rotate_left
  ·have jk:res=none:=by rw[aQ,ig (by simp at g6;simp[g6,g7])];rfl
   subst jk;conv=>whnf
   exact⟨_,rfl,_,_,_,rfl,kJ _⟩
  conv=>whnf
  intro pI pJ dT dU;replace S:=S.alloc dT dU;conv=>whnf
  refine⟨trivial,?_⟩;conv=>whnf
  refine⟨[_],bT (S.row 0 rfl),dI rfl rfl,?_⟩;replace S:=S.drop 0;dsimp only[List.eraseIdx]at S;refine qp (f:=i64) (x:=n) (aj.Rw S) (by simp[bB];omega) fun k2 h2 S3 _=>?_;clear S;conv=>whnf
  have hq:=sf.here (args:=[D,.own k2 0 (keyOf row aq++[n]).length]) (lj (qQ (S3.drop 0)) (iR.snap ((aj.kn S3).get 0 rfl))) rfl rfl;refine⟨_,hq,?_⟩;clear hq;conv=>whnf
  refine ae (fun g8=>?_) (fun g8=>?_)
  ·rw[if_pos g8]at dN;conv=>whnf
   refine l8 hp acc (keyOf row aq++[n]) 1 _ T7.1.1 T7.1.2 (by simp[dB];omega) S3.swap (fun h' S'=>iR.snap ((aj.kn S').get 0 rfl)) fun v' h' F' S4=>?_;conv=>whnf
   exact⟨m-1,by omega,j+1,_,_,by omega,rfl,aP j gA,by rw[dN];exact S4.drop 1,by rw[fP,g7];simp⟩
  ·rw[if_neg (by rw[g8];simp)]at dN;conv=>whnf
   exact⟨m-1,by omega,j+1,_,_,by omega,rfl,aP j gA,by rw[dN];exact S3.drop 0,by rw[fP,g7];simp⟩
 ·have bp:j=z.length:=by
   have: ¬j<z.length:=by simpa using h1
   omega
  subst bp;rw[aar]at S aF;rw[aF,if_pos rfl]at aQ;have uj:=rS (z:=z) (agg:=agg) (c:=c) (aq:=aq) (by omega) z [] (by simp);conv=>whnf
  refine qR hp ⟨by simp[dB];simp at uj;omega,uj.2⟩ S (fun g=>?_) (fun g=>?_)
  ·have jk:=aQ.trans (pk g);subst jk;conv=>whnf
   exact⟨_,rfl,_,_,_,rfl,CN S true⟩
  ·have jk:=aQ.trans (po g);subst jk;conv=>whnf
   exact⟨_,rfl,_,_,_,rfl,kJ _⟩
end Go.Proofs.YtfepbikckfehlaaGreat

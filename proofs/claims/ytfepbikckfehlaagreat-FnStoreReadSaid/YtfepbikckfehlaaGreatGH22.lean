/- Items put into items of one's own: the reference's. -/
import Derived.Test.YtfepbikckfehlaaGreatGH16
import Derived.Test.YtfepbikckfehlaaGreatGH21
set_option linter.unusedVariables false
set_option linter.unusedSimpArgs false
set_option maxHeartbeats 4000000
namespace Go.Proofs.YtfepbikckfehlaaGreat
open Go Go.Am
variable{pr:bL}(hp:bV pr)
set_option maxRecDepth 100000
theorem qh{h:aC}{L:List Chunk}{row:List Int}{w:Int}{A:af}{F:List Nat}(S:ah h (.cU (gq.d row) A F::L)):ah h (.cU (Item.d ⟨row,w⟩) (.agg [A,i64 w]) (F++[])::L):=
 S.is (c':=.cU (Item.d ⟨row,w⟩) (.agg [A,i64 w]) (F++[])) (gx.2 ⟨_,rfl,iF (S.get 0 rfl) (ee gE)⟩) (by simp[Chunk.cU])
theorem Dx(hp:B8 pr)(z:List Item)(hz:z.length<=cM/\ ∀x∈z,x.row.length<=1048576):kC pr 53 [.sl (z.map Item.enc)] (aE.d z):=by
 obtain⟨hl,hr⟩:=hz;refine KC hp.tobV rfl ?_;have S:ah [] []:=ah.nil [];conv=>whnf
 replace S:=ah.j7 2 S;refine ga (fun m tm hp=>∃(j:Nat)(D:af)(F:List Nat),j+m=z.length/\tm 8=i64 (j:Nat)/\tm 3=D/\ah hp [.iA 2 ((z.take j).map Item.d) D F]) (fun m tm hq bz hI=>?_) (z.length) ⟨0,.nil,[],by simp,(by first|rfl|kernel_rfl|simp),(by first|rfl|kernel_rfl|simp),S⟩;obtain⟨j,D,F,hj,e8,e3,S2⟩:=hI;have k6:=bz 6 (by kernel_rfl);conv at k6=>rhs;whnf
 rw[<-aP k6];have k7:=bz 7 (by kernel_rfl);conv at k7=>rhs;whnf
 rw[<-aP k7];rw[<-aP e8];rw[<-aP e3];clear bz k6 k7 e8 e3;clear S;have S:=S2;clear S2;conv=>whnf
 have fw:j<4611686018427387904:=by simp[cM]at hl;omega
 refine ae (fun h1=>?_) (fun h1=>?_)
 ·have bq:j<z.length:=by simpa using h1
  have cx:(z.map Item.enc)[((j:Nat):Int).toNat]?=some (Item.enc z[j]):=by rw[aq];simp[bq]
  have eI:=LZ.Zl (hp.Pg z[j].row (hr _ (ay bq))).toL;have tW:=congrArg (List.map Item.d) (dn bq);rw[bd]at tW;generalize z[j]=x at cx eI tW;obtain⟨row,w⟩:=x;conv=>whnf
  refine⟨_,cx,by omega,rfl,?_⟩
  iterate 4
   all_goals(try(conv=>whnf))
   all_goals(first|(intro ke cg er bn;replace S:=S.alloc er bn)|(refine .inl ⟨_,S.row 0 rfl,rfl,?_⟩)|(refine .inl ⟨_,S.row 1 rfl,rfl,?_⟩)|(refine .inl ⟨_,S.row 2 rfl,rfl,?_⟩)|(refine .inl ⟨_,S.row 3 rfl,rfl,?_⟩)|(refine .inl ⟨_,S.row 4 rfl,rfl,?_⟩)|(refine⟨_,rfl,rfl,rfl,.inl ⟨_,S.row 0 rfl,rfl,?_⟩⟩;(conv=>whnf);intro cg bn;replace S:=S.w0 bn)|(refine⟨_,rfl,rfl,rfl,.inl ⟨_,S.row 1 rfl,rfl,?_⟩⟩;(conv=>whnf);intro cg bn;replace S:=S.w1 bn)|(refine⟨_,rfl,rfl,rfl,.inl ⟨_,S.row 2 rfl,rfl,?_⟩⟩;(conv=>whnf);intro cg bn;replace S:=S.w2 bn)|(refine⟨_,rfl,rfl,rfl,.inl ⟨_,S.row 3 rfl,rfl,?_⟩⟩;(conv=>whnf);intro cg bn;replace S:=S.w3 bn)|(refine⟨_,rfl,rfl,rfl,.inl ⟨_,S.row 4 rfl,rfl,?_⟩⟩;(conv=>whnf);intro cg bn;replace S:=S.w4 bn)|(refine ae (fun hb=>?_) (fun hb=>?_))|skip)
  refine ek S eI rfl rfl fun A q1 F1 o1 S1=>?_;replace S:=S1;clear S1
  iterate 2
   all_goals(try(conv=>whnf))
   all_goals(first|(refine dE o1.cell.1 ?_)|(intro ke cg er bn;replace S:=S.alloc er bn)|(refine .inl ⟨_,S.row 0 rfl,rfl,?_⟩)|(refine .inl ⟨_,S.row 1 rfl,rfl,?_⟩)|(refine .inl ⟨_,S.row 2 rfl,rfl,?_⟩)|(refine .inl ⟨_,S.row 3 rfl,rfl,?_⟩)|(refine .inl ⟨_,S.row 4 rfl,rfl,?_⟩)|(refine⟨_,rfl,rfl,rfl,.inl ⟨_,S.row 0 rfl,rfl,?_⟩⟩;(conv=>whnf);intro cg bn;replace S:=S.w0 bn)|(refine⟨_,rfl,rfl,rfl,.inl ⟨_,S.row 1 rfl,rfl,?_⟩⟩;(conv=>whnf);intro cg bn;replace S:=S.w1 bn)|(refine⟨_,rfl,rfl,rfl,.inl ⟨_,S.row 2 rfl,rfl,?_⟩⟩;(conv=>whnf);intro cg bn;replace S:=S.w2 bn)|(refine⟨_,rfl,rfl,rfl,.inl ⟨_,S.row 3 rfl,rfl,?_⟩⟩;(conv=>whnf);intro cg bn;replace S:=S.w3 bn)|(refine⟨_,rfl,rfl,rfl,.inl ⟨_,S.row 4 rfl,rfl,?_⟩⟩;(conv=>whnf);intro cg bn;replace S:=S.w4 bn)|(refine ae (fun hb=>?_) (fun hb=>?_))|skip)
  conv=>whnf
  intro kv hv ZO hhv;replace S:=S.alloc ZO hhv;conv=>whnf
  refine⟨trivial,?_⟩;conv=>whnf
  refine⟨[_],bG (S.row 0 rfl),ef rfl (bC o1.cell.2 rfl),?_⟩;replace S:=S.pick [3,1] (by decide);simp only[kB,List.getElem?_cons_zero,List.getElem?_cons_succ]at S;replace S:=(qh (w:=w) S.swap).swap;refine jM S (by simp[br,cM]at*;omega) fun k h2 F2 S2=>?_;conv=>whnf
  exact⟨m-1,by omega,j+1,_,_,by omega,aQ j fw,rfl,by rw[tW];exact S2⟩
 ·have bq:j=z.length:=by have: ¬j<z.length:=by simpa using h1
                         omega
  subst bq;conv=>whnf
  rw[aS]at S;exact⟨_,rfl,_,_,_,rfl,(ah.dv S).get 0 rfl,(S.get' 0 _ rfl).2⟩
theorem ah.jc{h:aC}{L:List Chunk}{xs:List Int}{v:af}(s:ah h (.acc i64 1 xs v::L)):ah h (.cU (gq.d xs) v (nT v)::L):=
 s.is (c':=.cU (gq.d xs) v (nT v)) (by
  show bP h (.s 1 (xs.map ba.i)) v (nT v);refine IN.1 ?_;have h0:m8 i64 1 h xs v:=s.get 0 rfl;rcases h0 with⟨rfl,rfl⟩|⟨id,rfl,h1⟩
  ·exact .inl ⟨rfl,rfl,.inl rfl⟩
  ·exact .inr ⟨id,rfl,h1,rfl⟩) rfl
theorem I3(xs:List Int):(xs.map i64).all (hU 1)=true:=by
 rw[aG];intro y hy;obtain⟨q,_,rfl⟩:=bj.1 hy;rfl
theorem px(hp:bV pr)(xs:List Int)(hl:xs.length<=cM):kC pr 93 [.sl (xs.map i64)] (gq.d xs):=by
 refine KC hp rfl ?_;have S:ah [] []:=ah.nil [];conv=>whnf
 refine⟨trivial,?_⟩;conv=>whnf
 refine⟨_,rfl,I3 xs,?_⟩;refine jA (ys:=xs) (ah.ma i64 1 S) (by simp[br,cM]at*;omega) fun D1 w1 Ec S1=>?_;conv=>whnf
 exact⟨_,rfl,_,_,_,rfl,(ah.jc S1).get 0 rfl,((ah.jc S1).get' 0 _ rfl).2⟩
theorem kF(hp:bV pr)(z:List Item)(hz:gi z):tE pr 55 [.sl (z.map Item.enc)] 2 (z.map Item.d):=by
 obtain⟨hl,hr⟩:=hz;have fw: ∀j,j<=z.length->j<4611686018427387904:=fun j h=>by simp[cM]at hl;omega
 refine Dj hp rfl ?_;have S:ah [] []:=ah.nil [];conv=>whnf
 replace S:=ah.j7 2 S;refine ga (fun m tm hp=>∃(j:Nat)(D:af)(F:List Nat),j+m=z.length/\tm 3=D/\tm 4=i64 (j:Nat)/\ah hp [.iA 2 ((z.take j).map Item.d) D F]) (fun m tm hq bz hI=>?_) (z.length) ⟨0,.nil,[],by simp,(by first|rfl|kernel_rfl|simp),(by first|rfl|kernel_rfl|simp),S⟩;obtain⟨j,D,F,hj,e3,e4,S2⟩:=hI;have k0:=bz 0 (by kernel_rfl);conv at k0=>rhs;whnf
 rw[<-aP k0];rw[<-aP e3];rw[<-aP e4];clear bz k0 e3 e4;clear S;have S:=S2;clear S2;conv=>whnf
 have fw:=fw j (by omega);refine ae (fun h1=>?_) (fun h1=>?_)
 ·have bq:j<z.length:=by simpa using h1
  have cx:(z.map Item.enc)[((j:Nat):Int).toNat]?=some (Item.enc z[j]):=by rw[aq];simp[bq]
  have eI:=px hp z[j].row (hr _ (ay bq));have tW:=congrArg (List.map Item.d) (dn bq);rw[bd]at tW;generalize z[j]=x at cx eI tW;obtain⟨row,w⟩:=x;conv=>whnf
  refine⟨_,cx,by omega,rfl,?_⟩;conv=>whnf
  refine ek S eI rfl rfl fun A q1 F1 o1 S1=>?_;replace S:=S1;clear S1;conv=>whnf
  refine⟨_,cx,by omega,rfl,?_⟩;conv=>whnf
  refine dE o1.cell.1 ?_;conv=>whnf
  intro nM nN de dg;replace S:=S.alloc de dg;conv=>whnf
  refine⟨trivial,?_⟩;conv=>whnf
  refine⟨[_],bG (S.row 0 rfl),ef rfl (bC o1.cell.2 rfl),?_⟩;replace S:=S.drop 0;dsimp only[List.eraseIdx]at S;replace S:=(qh (w:=w) S).swap;refine jM S (by simp[br,cM]at*;omega) fun k_ h2 F2 S2=>?_;conv=>whnf
  exact⟨m-1,by omega,j+1,_,_,by omega,rfl,aQ j fw,by rw[tW];exact S2⟩
 ·have bq:j=z.length:=by
   have: ¬j<z.length:=by simpa using h1
   omega
  subst bq;conv=>whnf
  rw[aS]at S;exact⟨_,rfl,_,_,_,rfl,S.get 0 rfl,(S.get' 0 _ rfl).2⟩
end Go.Proofs.YtfepbikckfehlaaGreat
set_option maxHeartbeats 4000000
namespace Go.Am
open Go
end Go.Am
namespace Go.Proofs.YtfepbikckfehlaaGreat
open Go Go.Am
variable{pr:bL}(hp:bV pr)
set_option maxRecDepth 100000
theorem aE.fU{h:aC}{z:List Item}{v:af}{F:List Nat}(ho:bP h (aE.d z) v F):snap h v=some (aE.enc z):=by
 have:=ho.snap (by
  have: ∀ds:List Item,ba.cZ (ds.map Item.d)<=3:=fun ds=>by
   induction ds with
   |nil=>simp[ba.cZ]
   |cons x xs ih=>
    have hi: ∀ys:List Int,ba.cZ (ys.map ba.i)<=1:=fun ys=>by induction ys with|nil=>simp[ba.cZ]|cons y ys ih=>simp only[aM,ba.cZ,ba.dep];omega
    have:=hi x.row;simp only[aM,ba.cZ,Item.d,ba.dep,gq.d];omega
  have:=this z;simp only[aE.d,ba.dep];omega)
 rw[this,aE.eD]
def uO(z:List Item):List Item×Bool:=if c7 z then(z,true)else([],false)
theorem cE{z:List Item}(h:c7 z=true):z.length<=100/\ ∀x∈z,x.row.length<=6:=by
 simp only[c7,aj,decide_eq_true_iff]at h;refine⟨h.1,?_⟩
 have key: ∀(z:List Item)(q:Option (List Int)),B5 q z=true-> ∀x∈z,x.row.length<=6:=by
  intro z
  induction z with
  |nil=>intro q _ x hx;simp at hx
  |cons y ys ih=>
   intro q hq x hx;simp only[B5,aj]at hq;rcases aW.1 hx with rfl|hx
   ·have:=hq.1.1;simp only[nh,aj,decide_eq_true_iff]at this;exact this.2.1
   ·exact ih _ hq.2 x hx
 exact key z none h.2
theorem cF{z:List Item}(h:c7 z=true):gi z:=by
 obtain⟨h1,h2⟩:=cE h;exact⟨by simp[cM];omega,fun x hx=>by have:=h2 x hx;simp[cM];omega⟩
theorem eW{h:aC}{d1 d2:ba}{v1 v2:af}{F1 F2:List Nat}(h1:bP h d1 v1 F1)(h2:bP h d2 v2 F2):bZ h [d1,d2] [v1,v2] (F1++F2):=by
 simp only[bZ];exact⟨v1,[v2],F1,F2,rfl,rfl,h1,v2,[],F2,[],rfl,by simp,h2,rfl,rfl⟩
theorem tJ{h:aC}(b:Bool):bP h (.b b) (.bool b) []:=by unfold bP;exact⟨rfl,rfl⟩
theorem nk{h:aC}(x:Int):bP h (.i x) (i64 x) []:=by unfold bP;exact⟨rfl,rfl⟩
theorem jO{h:aC}(sz:Nat):bP h (.s sz []) .nil []:=by unfold bP;exact .inl ⟨rfl,rfl,.inl rfl⟩
theorem Un(hp:B8 pr)(z:List Item)(hz:gi z):lu pr 19 [.sl (z.map Item.enc)] [aE.d (uO z).1,.b (uO z).2]:=by
 have h1:=rE hp.tobV z hz
 have h2:c7 z=true->kC pr 53 [.sl (z.map Item.enc)] (aE.d z):=fun h=>by
  obtain⟨g1,g2⟩:=cE h;exact Dx hp z ⟨hz.1,fun x hx=>by have:=g2 x hx;omega⟩
 unfold uO;refine Db hp.tobV rfl ?_;have S:ah [] []:=ah.nil [];conv=>whnf
 refine⟨_,h1 _,?_⟩;conv=>whnf
 refine ae (fun g1=>?_) (fun g1=>?_)
 ·rw[if_pos g1];conv=>whnf
  refine ek S (h2 g1) rfl rfl fun A q1 F1 o1 S1=>?_;conv=>whnf
  exact⟨_,rfl,_,_,_,rfl,eW o1 (tJ true),by rw[aU];exact(S1.get' 0 _ rfl).2⟩
 ·rw[g1];conv=>whnf
  exact⟨_,rfl,_,_,_,rfl,eW (jO 2) (tJ false),by simp⟩
theorem tK(hp:bV pr)(a b:List Item)(ha:gi a)(hb:gi b):dm pr 54 [.sl (a.map Item.enc),.sl (b.map Item.enc)] (.sl ((dN a b).map Item.enc)):=by
 have h:=Pm hp a b ha hb;refine ea hp rfl rfl ?_;have S:ah [] []:=ah.nil [];conv=>whnf
 refine⟨_,h _,?_⟩;conv=>whnf
 exact⟨_,rfl,_,_,rfl,rfl⟩
theorem zP{a b:List Item}(ha:gi a)(hb:gi b)(hl:a.length+b.length<=cM):gi (dN a b):=by
 refine⟨bw (tI _ a b (aB _)) hl,fun x hx=>?_⟩;obtain⟨y,hy,e⟩:=zO _ a b (aB _) x hx;rw[e];rcases hy with hy|hy
 ·exact ha.2 y hy
 ·exact hb.2 y hy
def HG(cA:Int):List Item->List cC->List Item
 |z,[]=>z
 |z,p::ps=>HG cA (if p.cA<=cA then dN z p.out else z) ps
theorem Pn(hp:bV pr)(v:View)(cA:Int)(hb:c7 v.base=true)(ho: ∀p∈v.aZ,c7 p.out=true)(hl:v.aZ.length<=1000000):dm pr 20 [v.enc,i64 cA] (.sl ((HG cA v.base v.aZ).map Item.enc)):=by
 obtain⟨⟨⟨aw,n,aA,cells,a,b,ao,agg,col,al⟩,l,r,ks⟩,bF,base,aZ⟩:=v;simp only at hb ho hl;refine ea hp rfl rfl ?_;have S:ah [] []:=ah.nil [];conv=>whnf
 intro k1 a1 dw dC;replace S:=S.alloc dw dC
 iterate 3
  all_goals(try(conv=>whnf))
  all_goals(first|(intro ke cg er bn;replace S:=S.alloc er bn)|(refine .inl ⟨_,S.row 0 rfl,rfl,?_⟩)|(refine .inl ⟨_,S.row 1 rfl,rfl,?_⟩)|(refine .inl ⟨_,S.row 2 rfl,rfl,?_⟩)|(refine .inl ⟨_,S.row 3 rfl,rfl,?_⟩)|(refine .inl ⟨_,S.row 4 rfl,rfl,?_⟩)|(refine⟨_,rfl,rfl,rfl,.inl ⟨_,S.row 0 rfl,rfl,?_⟩⟩;(conv=>whnf);intro cg bn;replace S:=S.w0 bn)|(refine⟨_,rfl,rfl,rfl,.inl ⟨_,S.row 1 rfl,rfl,?_⟩⟩;(conv=>whnf);intro cg bn;replace S:=S.w1 bn)|(refine⟨_,rfl,rfl,rfl,.inl ⟨_,S.row 2 rfl,rfl,?_⟩⟩;(conv=>whnf);intro cg bn;replace S:=S.w2 bn)|(refine⟨_,rfl,rfl,rfl,.inl ⟨_,S.row 3 rfl,rfl,?_⟩⟩;(conv=>whnf);intro cg bn;replace S:=S.w3 bn)|(refine⟨_,rfl,rfl,rfl,.inl ⟨_,S.row 4 rfl,rfl,?_⟩⟩;(conv=>whnf);intro cg bn;replace S:=S.w4 bn)|(refine ae (fun hb=>?_) (fun hb=>?_))|skip)
 have tL:gi base/\base.length<=100+100*0:=⟨cF hb,by have:=(cE hb).1;omega⟩;conv=>whnf
 refine ga (fun m tm hp=>∃(j:Nat)(z:List Item),j+m=aZ.length/\tm 5=aE.enc z/\tm 13=i64 (j:Nat)/\(gi z/\z.length<=100+100*j)/\(HG cA base aZ=HG cA z (aZ.drop j))) (fun m tm hq bz hI=>?_) (aZ.length) ⟨0,base,by simp,(by first|rfl|kernel_rfl|simp),(by first|rfl|kernel_rfl|simp),(tL),(rfl)⟩;obtain⟨j,z,hj,e5,L8,hz,aD⟩:=hI;have k1:=bz 1 (by kernel_rfl);conv at k1=>rhs;whnf
 rw[<-aP k1];have qi:=bz 11 (by kernel_rfl);conv at qi=>rhs;whnf
 rw[<-aP qi];have Uf:=bz 12 (by kernel_rfl);conv at Uf=>rhs;whnf
 rw[<-aP Uf];rw[<-aP e5];rw[<-aP L8];clear bz k1 qi Uf e5 L8;have S:ah hq []:=ah.nil hq;conv=>whnf
 have fw:j<4611686018427387904:=by omega
 refine ae (fun h1=>?_) (fun h1=>?_)
 ·have bq:j<aZ.length:=by simpa using h1
  have cx:(aZ.map cC.enc)[((j:Nat):Int).toNat]?=some (cC.enc aZ[j]):=by rw[aq];simp[bq]
  rw[ar bq]at aD;have hx:=ho _ (ay bq);generalize aZ[j]=x at cx aD hx;obtain⟨t,out⟩:=x;have h2:=tK hp z out hz.1 (cF hx);have xm:out.length<=100:=(cE hx).1;simp only[HG]at aD;conv=>whnf
  refine⟨_,cx,by omega,rfl,?_⟩
  iterate 3
   all_goals(try(conv=>whnf))
   all_goals(first|(intro ke cg er bn;replace S:=S.alloc er bn)|(refine .inl ⟨_,S.row 0 rfl,rfl,?_⟩)|(refine .inl ⟨_,S.row 1 rfl,rfl,?_⟩)|(refine .inl ⟨_,S.row 2 rfl,rfl,?_⟩)|(refine .inl ⟨_,S.row 3 rfl,rfl,?_⟩)|(refine .inl ⟨_,S.row 4 rfl,rfl,?_⟩)|(refine⟨_,rfl,rfl,rfl,.inl ⟨_,S.row 0 rfl,rfl,?_⟩⟩;(conv=>whnf);intro cg bn;replace S:=S.w0 bn)|(refine⟨_,rfl,rfl,rfl,.inl ⟨_,S.row 1 rfl,rfl,?_⟩⟩;(conv=>whnf);intro cg bn;replace S:=S.w1 bn)|(refine⟨_,rfl,rfl,rfl,.inl ⟨_,S.row 2 rfl,rfl,?_⟩⟩;(conv=>whnf);intro cg bn;replace S:=S.w2 bn)|(refine⟨_,rfl,rfl,rfl,.inl ⟨_,S.row 3 rfl,rfl,?_⟩⟩;(conv=>whnf);intro cg bn;replace S:=S.w3 bn)|(refine⟨_,rfl,rfl,rfl,.inl ⟨_,S.row 4 rfl,rfl,?_⟩⟩;(conv=>whnf);intro cg bn;replace S:=S.w4 bn)|(refine ae (fun hb=>?_) (fun hb=>?_))|skip)
  conv=>whnf
  refine ae (fun h3=>?_) (fun h3=>?_)
  ·rw[if_pos (by simpa using h3)]at aD
   iterate 3
    all_goals(try(conv=>whnf))
    all_goals(first|(intro ke cg er bn;replace S:=S.alloc er bn)|(refine .inl ⟨_,S.row 0 rfl,rfl,?_⟩)|(refine .inl ⟨_,S.row 1 rfl,rfl,?_⟩)|(refine .inl ⟨_,S.row 2 rfl,rfl,?_⟩)|(refine .inl ⟨_,S.row 3 rfl,rfl,?_⟩)|(refine .inl ⟨_,S.row 4 rfl,rfl,?_⟩)|(refine⟨_,rfl,rfl,rfl,.inl ⟨_,S.row 0 rfl,rfl,?_⟩⟩;(conv=>whnf);intro cg bn;replace S:=S.w0 bn)|(refine⟨_,rfl,rfl,rfl,.inl ⟨_,S.row 1 rfl,rfl,?_⟩⟩;(conv=>whnf);intro cg bn;replace S:=S.w1 bn)|(refine⟨_,rfl,rfl,rfl,.inl ⟨_,S.row 2 rfl,rfl,?_⟩⟩;(conv=>whnf);intro cg bn;replace S:=S.w2 bn)|(refine⟨_,rfl,rfl,rfl,.inl ⟨_,S.row 3 rfl,rfl,?_⟩⟩;(conv=>whnf);intro cg bn;replace S:=S.w3 bn)|(refine⟨_,rfl,rfl,rfl,.inl ⟨_,S.row 4 rfl,rfl,?_⟩⟩;(conv=>whnf);intro cg bn;replace S:=S.w4 bn)|(refine ae (fun hb=>?_) (fun hb=>?_))|(refine⟨_,h2 _,?_⟩)|skip)
   conv=>whnf
   exact⟨m-1,by omega,j+1,dN z out,by omega,rfl,aQ j fw,⟨zP hz.1 (cF hx) (by simp[cM];omega),by have:=tI _ z out (aB _);omega⟩,aD⟩
  ·rw[if_neg (by simpa using h3)]at aD;conv=>whnf
   exact⟨m-1,by omega,j+1,z,by omega,rfl,aQ j fw,⟨hz.1,by omega⟩,aD⟩
 ·have bq:j=aZ.length:=by
   have: ¬j<aZ.length:=by simpa using h1
   omega
  subst bq;conv=>whnf
  rw[aL]at aD;refine⟨_,rfl,_,_,rfl,?_⟩;show _=some (af.sl ((HG cA base aZ).map Item.enc));rw[aD];rfl
end Go.Proofs.YtfepbikckfehlaaGreat
set_option maxHeartbeats 4000000
namespace Go.Proofs.YtfepbikckfehlaaGreat
open Go Go.Am
variable{pr:bL}(hp:bV pr)
set_option maxRecDepth 100000
theorem uP(hp:bV pr)(xs:List Int)(hl:xs.length<=cM):dm pr 57 [.sl (xs.map i64)] (.bool (nh xs)):=by
 refine ea hp rfl rfl ?_;have S:ah [] []:=ah.nil [];conv=>whnf
 refine ga (fun m tm hp=>∃(j:Nat),j+m=xs.length/\tm 3=i64 (j:Nat)/\(xs.all bE=(xs.drop j).all bE)) (fun m tm hq bz hI=>?_) (xs.length) ⟨0,by simp,(by first|rfl|kernel_rfl|simp),(rfl)⟩;obtain⟨j,hj,e3,aD⟩:=hI;have k0:=bz 0 (by kernel_rfl);conv at k0=>rhs;whnf
 rw[<-aP k0];rw[<-aP e3];clear bz k0 e3;have S:ah hq []:=ah.nil hq;conv=>whnf
 refine ae (fun h1=>?_) (fun h1=>?_)
 ·have bq:j<xs.length:=by simpa using h1
  have cx:(xs.map i64)[((j:Nat):Int).toNat]?=some (i64 xs[j]):=by rw[aq];simp[bq]
  have h2:=uF hp xs[j];rw[ar bq,List.all_cons]at aD;generalize xs[j]=x at cx h2 aD;conv=>whnf
  refine⟨_,cx,by omega,rfl,?_⟩
  iterate 3
   all_goals(try(conv=>whnf))
   all_goals(first|(intro ke cg er bn;replace S:=S.alloc er bn)|(refine .inl ⟨_,S.row 0 rfl,rfl,?_⟩)|(refine .inl ⟨_,S.row 1 rfl,rfl,?_⟩)|(refine .inl ⟨_,S.row 2 rfl,rfl,?_⟩)|(refine .inl ⟨_,S.row 3 rfl,rfl,?_⟩)|(refine .inl ⟨_,S.row 4 rfl,rfl,?_⟩)|(refine⟨_,rfl,rfl,rfl,.inl ⟨_,S.row 0 rfl,rfl,?_⟩⟩;(conv=>whnf);intro cg bn;replace S:=S.w0 bn)|(refine⟨_,rfl,rfl,rfl,.inl ⟨_,S.row 1 rfl,rfl,?_⟩⟩;(conv=>whnf);intro cg bn;replace S:=S.w1 bn)|(refine⟨_,rfl,rfl,rfl,.inl ⟨_,S.row 2 rfl,rfl,?_⟩⟩;(conv=>whnf);intro cg bn;replace S:=S.w2 bn)|(refine⟨_,rfl,rfl,rfl,.inl ⟨_,S.row 3 rfl,rfl,?_⟩⟩;(conv=>whnf);intro cg bn;replace S:=S.w3 bn)|(refine⟨_,rfl,rfl,rfl,.inl ⟨_,S.row 4 rfl,rfl,?_⟩⟩;(conv=>whnf);intro cg bn;replace S:=S.w4 bn)|(refine ae (fun hb=>?_) (fun hb=>?_))|(refine⟨_,h2 _,?_⟩)|skip)
  all_goals(try(conv=>whnf))
  all_goals first
   |exact bH (by simp[nh,aD,hb])
   |exact⟨m-1,by omega,j+1,by omega,aQ j (by simp[cM]at hl;omega),by simp[aD,hb]⟩
 ·have bq:j=xs.length:=by
   have: ¬j<xs.length:=by simpa using h1
   omega
  subst bq;have aD:xs.all bE=true:=by rw[aD];simp
  iterate 6
   all_goals(try(conv=>whnf))
   all_goals(first|(intro ke cg er bn;replace S:=S.alloc er bn)|(refine .inl ⟨_,S.row 0 rfl,rfl,?_⟩)|(refine .inl ⟨_,S.row 1 rfl,rfl,?_⟩)|(refine .inl ⟨_,S.row 2 rfl,rfl,?_⟩)|(refine .inl ⟨_,S.row 3 rfl,rfl,?_⟩)|(refine .inl ⟨_,S.row 4 rfl,rfl,?_⟩)|(refine⟨_,rfl,rfl,rfl,.inl ⟨_,S.row 0 rfl,rfl,?_⟩⟩;(conv=>whnf);intro cg bn;replace S:=S.w0 bn)|(refine⟨_,rfl,rfl,rfl,.inl ⟨_,S.row 1 rfl,rfl,?_⟩⟩;(conv=>whnf);intro cg bn;replace S:=S.w1 bn)|(refine⟨_,rfl,rfl,rfl,.inl ⟨_,S.row 2 rfl,rfl,?_⟩⟩;(conv=>whnf);intro cg bn;replace S:=S.w2 bn)|(refine⟨_,rfl,rfl,rfl,.inl ⟨_,S.row 3 rfl,rfl,?_⟩⟩;(conv=>whnf);intro cg bn;replace S:=S.w3 bn)|(refine⟨_,rfl,rfl,rfl,.inl ⟨_,S.row 4 rfl,rfl,?_⟩⟩;(conv=>whnf);intro cg bn;replace S:=S.w4 bn)|(refine ae (fun hb=>?_) (fun hb=>?_))|skip)
  all_goals exact bH (by first|(simp_all[nh];done)|(simp_all[nh];omega))
theorem W0(hp:bV pr)(w:Int):dm pr 58 [i64 w] (.bool (Nu w)):=by
 refine ea hp rfl rfl ?_;have S:ah [] []:=ah.nil []
 iterate 8
  all_goals(try(conv=>whnf))
  all_goals(first|(intro ke cg er bn;replace S:=S.alloc er bn)|(refine .inl ⟨_,S.row 0 rfl,rfl,?_⟩)|(refine .inl ⟨_,S.row 1 rfl,rfl,?_⟩)|(refine .inl ⟨_,S.row 2 rfl,rfl,?_⟩)|(refine .inl ⟨_,S.row 3 rfl,rfl,?_⟩)|(refine .inl ⟨_,S.row 4 rfl,rfl,?_⟩)|(refine⟨_,rfl,rfl,rfl,.inl ⟨_,S.row 0 rfl,rfl,?_⟩⟩;(conv=>whnf);intro cg bn;replace S:=S.w0 bn)|(refine⟨_,rfl,rfl,rfl,.inl ⟨_,S.row 1 rfl,rfl,?_⟩⟩;(conv=>whnf);intro cg bn;replace S:=S.w1 bn)|(refine⟨_,rfl,rfl,rfl,.inl ⟨_,S.row 2 rfl,rfl,?_⟩⟩;(conv=>whnf);intro cg bn;replace S:=S.w2 bn)|(refine⟨_,rfl,rfl,rfl,.inl ⟨_,S.row 3 rfl,rfl,?_⟩⟩;(conv=>whnf);intro cg bn;replace S:=S.w3 bn)|(refine⟨_,rfl,rfl,rfl,.inl ⟨_,S.row 4 rfl,rfl,?_⟩⟩;(conv=>whnf);intro cg bn;replace S:=S.w4 bn)|(refine ae (fun hb=>?_) (fun hb=>?_))|skip)
 all_goals exact bH (by first|(simp_all[Nu];done)|(simp_all[Nu];omega))
theorem zQ(hp:bV pr)(xs ys:List Int)(hx:xs.length<=cM)(hy:ys.length<=cM):dm pr 59 [.sl (xs.map i64),.sl (ys.map i64)] (.bool (eg xs ys)):=by
 have h:=we hp xs ys (by simp[cM]at hx;omega) (by simp[cM]at hy;omega) hx;refine ea hp rfl rfl ?_;have S:ah [] []:=ah.nil []
 iterate 4
  all_goals(try(conv=>whnf))
  all_goals(first|(intro ke cg er bn;replace S:=S.alloc er bn)|(refine .inl ⟨_,S.row 0 rfl,rfl,?_⟩)|(refine .inl ⟨_,S.row 1 rfl,rfl,?_⟩)|(refine .inl ⟨_,S.row 2 rfl,rfl,?_⟩)|(refine .inl ⟨_,S.row 3 rfl,rfl,?_⟩)|(refine .inl ⟨_,S.row 4 rfl,rfl,?_⟩)|(refine⟨_,rfl,rfl,rfl,.inl ⟨_,S.row 0 rfl,rfl,?_⟩⟩;(conv=>whnf);intro cg bn;replace S:=S.w0 bn)|(refine⟨_,rfl,rfl,rfl,.inl ⟨_,S.row 1 rfl,rfl,?_⟩⟩;(conv=>whnf);intro cg bn;replace S:=S.w1 bn)|(refine⟨_,rfl,rfl,rfl,.inl ⟨_,S.row 2 rfl,rfl,?_⟩⟩;(conv=>whnf);intro cg bn;replace S:=S.w2 bn)|(refine⟨_,rfl,rfl,rfl,.inl ⟨_,S.row 3 rfl,rfl,?_⟩⟩;(conv=>whnf);intro cg bn;replace S:=S.w3 bn)|(refine⟨_,rfl,rfl,rfl,.inl ⟨_,S.row 4 rfl,rfl,?_⟩⟩;(conv=>whnf);intro cg bn;replace S:=S.w4 bn)|(refine ae (fun hb=>?_) (fun hb=>?_))|(refine⟨_,h _,?_⟩)|skip)
 all_goals exact bH (by simp_all[eg])
theorem qj(hp:bV pr)(xs ys:List Int)(hx:xs.length<=cM)(hy:ys.length<=cM):dm pr 74 [.sl (xs.map i64),.sl (ys.map i64)] (.bool (eS xs ys)):=by
 have h:=we hp xs ys (by simp[cM]at hx;omega) (by simp[cM]at hy;omega) hx;rw[eS,<-sk];refine ea hp rfl rfl ?_;have S:ah [] []:=ah.nil []
 iterate 4
  all_goals(try(conv=>whnf))
  all_goals(first|(intro ke cg er bn;replace S:=S.alloc er bn)|(refine .inl ⟨_,S.row 0 rfl,rfl,?_⟩)|(refine .inl ⟨_,S.row 1 rfl,rfl,?_⟩)|(refine .inl ⟨_,S.row 2 rfl,rfl,?_⟩)|(refine .inl ⟨_,S.row 3 rfl,rfl,?_⟩)|(refine .inl ⟨_,S.row 4 rfl,rfl,?_⟩)|(refine⟨_,rfl,rfl,rfl,.inl ⟨_,S.row 0 rfl,rfl,?_⟩⟩;(conv=>whnf);intro cg bn;replace S:=S.w0 bn)|(refine⟨_,rfl,rfl,rfl,.inl ⟨_,S.row 1 rfl,rfl,?_⟩⟩;(conv=>whnf);intro cg bn;replace S:=S.w1 bn)|(refine⟨_,rfl,rfl,rfl,.inl ⟨_,S.row 2 rfl,rfl,?_⟩⟩;(conv=>whnf);intro cg bn;replace S:=S.w2 bn)|(refine⟨_,rfl,rfl,rfl,.inl ⟨_,S.row 3 rfl,rfl,?_⟩⟩;(conv=>whnf);intro cg bn;replace S:=S.w3 bn)|(refine⟨_,rfl,rfl,rfl,.inl ⟨_,S.row 4 rfl,rfl,?_⟩⟩;(conv=>whnf);intro cg bn;replace S:=S.w4 bn)|(refine ae (fun hb=>?_) (fun hb=>?_))|(refine⟨_,h _,?_⟩)|skip)
 all_goals exact bH hb.symm
theorem gu(hp:bV pr)(z:List Item)(hz:gi z):dm pr 23 [.sl (z.map Item.enc)] (.bool (c7 z)):=by
 obtain⟨hl,hr⟩:=hz;refine ea hp rfl rfl ?_;have S:ah [] []:=ah.nil [];conv=>whnf
 refine ae (fun h0=>?_) (fun h0=>?_)
 ·conv=>whnf
  exact bH (by have: ¬z.length<=100:=by simp at h0;omega
               simp[c7,this])
 have hz:c7 z=B5 none z:=by
  have:z.length<=100:=by simp at h0;omega
  simp[c7,this]
 rw[hz];clear hz h0;conv=>whnf
 refine ga (fun m tm hp=>∃(j:Nat),j+m=z.length/\tm 3=i64 (j:Nat)/\(B5 none z=B5 (lF (z.take j)) (z.drop j))) (fun m tm hq bz hI=>?_) (z.length) ⟨0,by simp,(by first|rfl|kernel_rfl|simp),(by simp[lF])⟩;obtain⟨j,hj,e3,aD⟩:=hI;have k0:=bz 0 (by kernel_rfl);conv at k0=>rhs;whnf
 rw[<-aP k0];rw[<-aP e3];clear bz k0 e3;have S:ah hq []:=ah.nil hq;conv=>whnf
 refine ae (fun h1=>?_) (fun h1=>?_)
 ·have bq:j<z.length:=by simpa using h1
  have cx:(z.map Item.enc)[((j:Nat):Int).toNat]?=some (Item.enc z[j]):=by rw[aq];simp[bq]
  have eC:=mG bq;have dT:=hr z[j] (ay bq);rw[ar bq]at aD;simp only[B5]at aD;have h4:=W0 hp z[j].w
  cases j with
  |zero=>
   have gZ:lF (z.take 0)=none:=by simp[lF]
   rw[gZ]at aD;generalize z[0]=x at cx dT aD eC h4;obtain⟨row,w⟩:=x;have h2:=uP hp row dT
   iterate 20
    all_goals(try(conv=>whnf))
    all_goals(first|(refine⟨_,cx,by omega,rfl,?_⟩)|(intro ke cg er bn;replace S:=S.alloc er bn)|(refine .inl ⟨_,S.row 0 rfl,rfl,?_⟩)|(refine .inl ⟨_,S.row 1 rfl,rfl,?_⟩)|(refine .inl ⟨_,S.row 2 rfl,rfl,?_⟩)|(refine .inl ⟨_,S.row 3 rfl,rfl,?_⟩)|(refine .inl ⟨_,S.row 4 rfl,rfl,?_⟩)|(refine⟨_,rfl,rfl,rfl,.inl ⟨_,S.row 0 rfl,rfl,?_⟩⟩;(conv=>whnf);intro cg bn;replace S:=S.w0 bn)|(refine⟨_,rfl,rfl,rfl,.inl ⟨_,S.row 1 rfl,rfl,?_⟩⟩;(conv=>whnf);intro cg bn;replace S:=S.w1 bn)|(refine⟨_,rfl,rfl,rfl,.inl ⟨_,S.row 2 rfl,rfl,?_⟩⟩;(conv=>whnf);intro cg bn;replace S:=S.w2 bn)|(refine⟨_,rfl,rfl,rfl,.inl ⟨_,S.row 3 rfl,rfl,?_⟩⟩;(conv=>whnf);intro cg bn;replace S:=S.w3 bn)|(refine⟨_,rfl,rfl,rfl,.inl ⟨_,S.row 4 rfl,rfl,?_⟩⟩;(conv=>whnf);intro cg bn;replace S:=S.w4 bn)|(refine ae (fun hb=>?_) (fun hb=>?_))|(refine⟨_,h2 _,?_⟩)|(refine⟨_,h4 _,?_⟩)|skip)
   all_goals(try(conv=>whnf))
   all_goals first
    |exact bH (by clear cx eC h2 h4 hr dT;simp_all)
    |exact⟨m-1,by omega,1,by omega,aQ 0 (by omega),by rw[eC,aD];clear cx eC h2 h4 hr dT aD;simp_all⟩
  |succ i=>
   have gZ:=mG (z:=z) (j:=i) (by omega);rw[gZ]at aD;have hw:IntKind.i64.wrap (((i+1:Nat):Int)-1)=(i:Nat):=by rw[aY];simp[cM]at hl;omega
   have qR:(z.map Item.enc)[(IntKind.i64.wrap (((i+1:Nat):Int)-1)).toNat]?=some (Item.enc z[i]):=by rw[hw,aq];simp[show i<z.length by omega]
   have uJ:=hr z[i] (ay (by omega));generalize z[i+1]=x at cx dT aD eC h4;generalize z[i]=y at qR uJ aD gZ;obtain⟨row,w⟩:=x;obtain⟨FJ,w2⟩:=y;have h2:=uP hp row dT;have h3:=zQ hp FJ row uJ dT
   iterate 26
    all_goals(try(conv=>whnf))
    all_goals(first|(refine⟨_,qR,by omega,rfl,?_⟩)|(refine⟨_,cx,by omega,rfl,?_⟩)|(intro ke cg er bn;replace S:=S.alloc er bn)|(refine .inl ⟨_,S.row 0 rfl,rfl,?_⟩)|(refine .inl ⟨_,S.row 1 rfl,rfl,?_⟩)|(refine .inl ⟨_,S.row 2 rfl,rfl,?_⟩)|(refine .inl ⟨_,S.row 3 rfl,rfl,?_⟩)|(refine .inl ⟨_,S.row 4 rfl,rfl,?_⟩)|(refine⟨_,rfl,rfl,rfl,.inl ⟨_,S.row 0 rfl,rfl,?_⟩⟩;(conv=>whnf);intro cg bn;replace S:=S.w0 bn)|(refine⟨_,rfl,rfl,rfl,.inl ⟨_,S.row 1 rfl,rfl,?_⟩⟩;(conv=>whnf);intro cg bn;replace S:=S.w1 bn)|(refine⟨_,rfl,rfl,rfl,.inl ⟨_,S.row 2 rfl,rfl,?_⟩⟩;(conv=>whnf);intro cg bn;replace S:=S.w2 bn)|(refine⟨_,rfl,rfl,rfl,.inl ⟨_,S.row 3 rfl,rfl,?_⟩⟩;(conv=>whnf);intro cg bn;replace S:=S.w3 bn)|(refine⟨_,rfl,rfl,rfl,.inl ⟨_,S.row 4 rfl,rfl,?_⟩⟩;(conv=>whnf);intro cg bn;replace S:=S.w4 bn)|(refine ae (fun hb=>?_) (fun hb=>?_))|(refine⟨_,h2 _,?_⟩)|(refine⟨_,h3 _,?_⟩)|(refine⟨_,h4 _,?_⟩)|skip)
   all_goals(try(conv=>whnf))
   all_goals first
    |exact bH (by clear cx qR eC h2 h3 h4 hr dT uJ hw gZ;simp_all)
    |exact⟨m-1,by omega,i+1+1,by omega,aQ (i+1) (by simp[cM]at hl;omega),by rw[eC,aD];clear cx qR eC h2 h3 h4 hr dT uJ aD hw gZ;simp_all⟩
 ·have bq:j=z.length:=by
   have: ¬j<z.length:=by simpa using h1
   omega
  subst bq;rw[aL]at aD;conv=>whnf
  exact bH (by rw[aD];rfl)
def fT:List Item->List Int->Int->List Item
 | [],r,w=>if w==0 then []else [⟨r,w⟩]
 |x::xs,r,w=>if eg x.row r then x::fT xs r w
  else if eS x.row r then(if j8 x.w w==0 then xs else⟨x.row,j8 x.w w⟩::xs)
  else if w==0 then x::xs else⟨r,w⟩::x::xs
def ct(a b:List Item):List Item:=b.foldl (fun z x=>fT z x.row x.w) a
theorem Ca{A B:List Item}{r:List Int}{w:Int}(h: ∀x∈A,eg x.row r=true):fT (A++B) r w=A++fT B r w:=by
 induction A with
 |nil=>rfl
 |cons x xs ih=>
  simp only[List.cons_append,fT];rw[if_pos (h x (by simp)),ih fun y hy=>h y (by simp[hy])]
theorem uQ(z:List Item)(r:List Int)(w:Int):(fT z r w).length<=z.length+1:=by
 induction z with
 |nil=>unfold fT;split<;>simp
 |cons x xs ih=>
  unfold fT
  repeat' split
  all_goals simp only[aJ]at*
  all_goals omega
theorem pz{z:List Item}{r:List Int}{w:Int}: ∀x∈fT z r w,x.row=r∨ ∃y∈z,x.row=y.row:=by
 induction z with
 |nil=>intro x hx;unfold fT at hx;split at hx<;>simp at hx;subst hx;exact .inl rfl
 |cons y ys ih=>
  intro x hx;unfold fT at hx;split at hx
  ·rcases aW.1 hx with rfl|hx
   ·exact .inr ⟨x,by simp,rfl⟩
   ·rcases ih x hx with h|⟨u,hu,e⟩
    ·exact .inl h
    ·exact .inr ⟨u,by simp[hu],e⟩
  ·split at hx
   ·split at hx
    ·exact .inr ⟨x,by simp[hx],rfl⟩
    ·rcases aW.1 hx with rfl|hx
     ·exact .inr ⟨y,by simp,rfl⟩
     ·exact .inr ⟨x,by simp[hx],rfl⟩
   ·split at hx
    ·exact .inr ⟨x,hx,rfl⟩
    ·rcases aW.1 hx with rfl|hx
     ·exact .inl rfl
     ·exact .inr ⟨x,hx,rfl⟩
theorem Gj{z:List Item}{r:List Int}{w:Int}(hz: ∀x∈z,x.row.length<=cM)(hr:r.length<=cM): ∀x∈fT z r w,x.row.length<=cM:=fun x hx=>by
 rcases pz x hx with e|⟨y,hy,e⟩
 ·rw[e];exact hr
 ·rw[e];exact hz y hy
theorem fp{a b:List Item}(ha: ∀x∈a,x.row.length<=cM)(hb: ∀x∈b,x.row.length<=cM):(ct a b).length<=a.length+b.length/\ ∀x∈ct a b,x.row.length<=cM:=by
 unfold ct
 induction b generalizing a with
 |nil=>exact⟨by simp,ha⟩
 |cons y ys ih=>
  have h1:=uQ a y.row y.w;obtain⟨h2,h3⟩:=ih (a:=fT a y.row y.w) (Gj ha (hb y (by simp))) fun x hx=>hb x (by simp[hx]);simp only[List.foldl_cons,aJ];exact⟨by omega,h3⟩
theorem bZ.at{h:aC}{A B:List ba}{d:ba}{vs:List af}{F:List Nat}(ho:bZ h (A++d::B) vs F): ∃v F1,vs[A.length]?=some v/\bP h d v F1:=by
 obtain⟨v1,v2,F1,F2,rfl,rfl,h1,h2⟩:=nf ho;simp only[bZ]at h2;obtain⟨v,eo,G1,G2,rfl,rfl,h3,h4⟩:=h2;exact⟨v,G1,by rw[<-gb h1];simp,h3⟩
theorem Item.open{h:aC}{x:Item}{v:af}{F:List Nat}(ho:bP h x.d v F): ∃P,v= .agg [P,i64 x.w]/\bP h (gq.d x.row) P F:=by
 obtain⟨r,w⟩:=x;obtain⟨vv,rfl,hu⟩:=gx.1 ho;obtain⟨P,w1,G1,G2,rfl,rfl,gP,BZ⟩:=kD.1 hu;obtain⟨w2,rfl,RK⟩:=ni.1 BZ;obtain⟨rfl,rfl⟩:=eL.1 RK;exact⟨P,rfl,by rw[aU];exact gP⟩
theorem gq.snap{h:aC}{r:List Int}{v:af}{F:List Nat}(ho:bP h (gq.d r) v F):Am.snap h v=some (.sl (r.map i64)):=by
 have hi: ∀ys:List Int,ba.cZ (ys.map ba.i)<=1:=fun ys=>by induction ys with|nil=>simp[ba.cZ]|cons y ys ih=>simp only[aM,ba.cZ,ba.dep];omega
 have:=ho.snap (by have:=hi r;simp only[gq.d,ba.dep];omega);rw[this];simp only[gq.d,ba.enc,ba.tA]
theorem lP{h:aC}{L:List Chunk}{id sz len:Nat}{es ys:List af}{K:af->aC->Prop}(S:ah h (.row id (.arr sz es)::L))(hlen:len<=es.length)(hl:len+ys.length<=br)
  (hK: ∀k h',ah h' (.row k (.arr sz (es.take len++ys))::L)->K (.own k 0 (len+ys.length)) h'):ID h sz (.own id 0 len) ys K:=by
   refine⟨es,S.row 0 rfl,rfl,hlen,?_⟩
   by_cases hy:ys=[]
   ·subst hy;refine .inl ⟨rfl,fun h' e=>?_⟩;have S1:=S.set 0 rfl e;dsimp only[List.set]at S1;exact hK id h' (by simpa using S1)
   ·refine .inr ⟨hy,hl,fun k h' e1 e2=>?_⟩;have S1:=S.move 0 rfl e1 e2;dsimp only[List.eraseIdx]at S1;have:=hK k h' S1;rw[List.length_append,List.length_take,Nat.min_eq_left hlen];exact this
theorem sn{h:aC}{id sz st n:Nat}{es ys:List af}(hi:h[id]?=some (.arr sz es))(hn:st+n<=es.length)(hy:(es.drop st).take n=ys):kh h (.own id st n)=some ys:=by
 simp only[kh,hi,hn,if_true,hy]
theorem Po{h:aC}{B:List Item}: ∀{vs:List af}{F:List Nat},bZ h (B.map Item.d) vs F->vs.all (hU 2)=true:=by
 induction B with
 |nil=>intro vs F ho;simp only[List.map_nil,bZ]at ho;rw[ho.1];rfl
 |cons b B ih=>
  intro vs F ho;simp only[aM,bZ]at ho;obtain⟨v,eo,F1,F2,rfl,rfl,h1,h2⟩:=ho;rw[List.all_cons,ih h2,Bool.and_true];obtain⟨r,w⟩:=b;obtain⟨vv,rfl,hu⟩:=gx.1 h1;obtain⟨P,w1,G3,G4,rfl,rfl,gP,BZ⟩:=kD.1 hu;obtain⟨w2,rfl,RK⟩:=ni.1 BZ;obtain⟨rfl,rfl⟩:=eL.1 RK;have:=ef (cs:=[P,i64 w]) (sz:=2) rfl (bC gP.cell.2 rfl)
  rwa [List.all_cons,List.all_nil,Bool.and_true]at this
theorem ah.Pp{h:aC}{L:List Chunk}{d:ba}{ds:List ba}{v:af}{vs:List af}{F1 F2:List Nat}(s:ah h (.cU d v F1:: .dy ds vs F2::L)):ah h (.dy (d::ds) (v::vs) (F1++F2)::L):=
 s.merge (e:=.dy (d::ds) (v::vs) (F1++F2)) (by show bZ _ _ _ _;simp only[bZ];exact⟨v,vs,F1,F2,rfl,rfl,s.get 0 rfl,s.get 1 rfl⟩) (fun id cq=>bu.1 cq) (by
  have:=s.swap.IW;exact this)
theorem ah.KL{h:aC}{L:List Chunk}{ds es:List ba}{vs us:List af}{F1 F2:List Nat}(s:ah h (.dy ds vs F1:: .dy es us F2::L)):ah h (.dy (ds++es) (vs++us) (F1++F2)::L):=
 s.merge (e:=.dy (ds++es) (vs++us) (F1++F2)) (jY (s.get 0 rfl) (s.get 1 rfl)) (fun id cq=>bu.1 cq) s.swap.IW
theorem ah.Uo{h:aC}{L:List Chunk}{A B:List Item}{b:Item}{vs:List af}{F:List Nat}(S:ah h (.dy ((A++b::B).map Item.d) vs F::L)):
  ∃VA P VB F0 G F2,vs=VA++ .agg [P,i64 b.w]::VB/\VA.length=A.length/\ah h (.dy (A.map Item.d) VA F0:: .cU (gq.d b.row) P G:: .dy (B.map Item.d) VB F2::L):=by
   have h1:bZ h ((A++b::B).map Item.d) vs F:=S.get 0 rfl;rw[bd,aM]at h1;obtain⟨v1,v2,F1,F2,rfl,rfl,h2,h3⟩:=nf h1;simp only[bZ]at h3;obtain⟨v,eo,G1,G2,rfl,rfl,h4,h5⟩:=h3;obtain⟨r,w⟩:=b;obtain⟨vv,rfl,hu⟩:=gx.1 h4;obtain⟨P,w1,G3,G4,rfl,rfl,gP,BZ⟩:=kD.1 hu;obtain⟨w2,rfl,RK⟩:=ni.1 BZ;obtain⟨rfl,rfl⟩:=eL.1 RK;refine⟨v1,P,eo,F1,G3,G2,rfl,by simpa using gb h2,S.O3 [.dy (A.map Item.d) v1 F1,.cU (gq.d r) P G3,.dy (B.map Item.d) eo G2] (by simp[Chunk.cU,Chunk.dy]) ?_⟩;intro d hd;simp only[aW,List.not_mem_nil,or_false]at hd;rcases hd with rfl|rfl|rfl
   ·exact h2
   ·exact gP
   ·exact h5
theorem ah.I4{h:aC}{L:List Chunk}{A B:List Item}{row:List Int}{w:Int}{VA VB:List af}{P:af}{F0 G F2:List Nat}(S:ah h (.dy (A.map Item.d) VA F0:: .cU (gq.d row) P G:: .dy (B.map Item.d) VB F2::L)):
  ∃F,ah h (.dy ((A++⟨row,w⟩::B).map Item.d) (VA++ .agg [P,i64 w]::VB) F::L):=by
   have S1:=S.front 1 rfl;dsimp only[List.eraseIdx]at S1;have S2:=S1.is (c':=.cU (Item.d ⟨row,w⟩) (.agg [P,i64 w]) (G++[])) (gx.2 ⟨_,rfl,iF (S1.get 0 rfl) (ee gE)⟩) (by simp[Chunk.cU]);have S3:=(S2.front 2 rfl).swap;dsimp only[List.eraseIdx]at S3;have S4:=ah.KL ((ah.Pp S3).swap);exact⟨_,by rw[bd,aM];exact S4⟩
end Go.Proofs.YtfepbikckfehlaaGreat

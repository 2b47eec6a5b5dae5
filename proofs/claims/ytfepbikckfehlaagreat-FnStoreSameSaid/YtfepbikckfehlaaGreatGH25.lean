/- Items put into items of one's own: the reference's. -/
import Derived.Test.YtfepbikckfehlaaGreatGH24
set_option linter.unusedVariables false
set_option linter.unusedSimpArgs false
set_option maxHeartbeats 4000000
namespace Go.Am
open Go
end Go.Am
namespace Go.Proofs.YtfepbikckfehlaaGreat
open Go Go.Am
variable{pr:bW}(hp:cF pr)
set_option maxRecDepth 100000
theorem aI.iT{h:aG}{z:List Item}{v:af}{F:List Nat}(ho:cq h (aI.d z) v F):snap h v=some (aI.enc z):=by
 have:=ho.snap (by
  have: ∀ds:List Item,bg.dO (ds.map Item.d)<=3:=fun ds=>by
   induction ds with
   |nil=>simp[bg.dO]
   |cons x xs ih=>
    have hi: ∀ys:List Int,bg.dO (ys.map bg.i)<=1:=fun ys=>by induction ys with|nil=>simp[bg.dO]|cons y ys ih=>simp only[aao,bg.dO,bg.dep];omega
    have:=hi x.row;simp only[aao,bg.dO,Item.d,bg.dep,iR.d];omega
  have:=this z;simp only[aI.d,bg.dep];omega)
 rw[this,aI.fG]
def wI(z:List Item):List Item×Bool:=if dS z then(z,true)else([],false)
theorem dA{z:List Item}(h:dS z=true):z.length<=100/\ ∀x∈z,x.row.length<=6:=by
 simp only[dS,xz,decide_eq_true_iff]at h;refine⟨h.1,?_⟩
 have key: ∀(z:List Item)(q:Option (List Int)),DJ q z=true-> ∀x∈z,x.row.length<=6:=by
  intro z
  induction z with
  |nil=>intro q _ x hx;simp at hx
  |cons y ys ih=>
   intro q hq x hx;simp only[DJ,xz]at hq;rcases aaz.1 hx with rfl|hx
   ·have:=hq.1.1;simp only[o8,xz,decide_eq_true_iff]at this;exact this.2.1
   ·exact ih _ hq.2 x hx
 exact key z none h.2
theorem dC{z:List Item}(h:dS z=true):ij z:=by
 obtain⟨h1,h2⟩:=dA h;exact⟨by simp[dB];omega,fun x hx=>by have:=h2 x hx;simp[dB];omega⟩
theorem iH{h:aG}{d1 d2:bg}{v1 v2:af}{F1 F2:List Nat}(h1:cq h d1 v1 F1)(h2:cq h d2 v2 F2):cZ h [d1,d2] [v1,v2] (F1++F2):=by
 simp only[cZ];exact⟨v1,[v2],F1,F2,rfl,rfl,h1,v2,[],F2,[],rfl,by simp,h2,rfl,rfl⟩
theorem ve{h:aG}(b:Bool):cq h (.b b) (.bool b) []:=by unfold cq;exact⟨rfl,rfl⟩
theorem uq{h:aG}(x:Int):cq h (.i x) (i64 x) []:=by unfold cq;exact⟨rfl,rfl⟩
theorem rI{h:aG}(sz:Nat):cq h (.s sz []) .nil []:=by unfold cq;exact .inl ⟨rfl,rfl,.inl rfl⟩
theorem Wk(hp:DE pr)(z:List Item)(hz:ij z):nc pr 19 [.sl (z.map Item.enc)] [aI.d (wI z).1,.b (wI z).2]:=by
 have h1:=uX hp.tocF z hz
 have h2:dS z=true->lZ pr 53 [.sl (z.map Item.enc)] (aI.d z):=fun h=>by
  obtain⟨g1,g2⟩:=dA h;exact Ff hp z ⟨hz.1,fun x hx=>by have:=g2 x hx;omega⟩
 unfold wI;refine MC hp.tocF rfl ?_;have S:=aj.nil [];conv=>whnf
 refine⟨_,h1 _,?_⟩;conv=>whnf
 refine ae (fun g1=>?_) (fun g1=>?_)
 ·rw[if_pos g1];conv=>whnf
  refine fp S (h2 g1) rfl rfl fun A q1 F1 o1 S1=>?_;conv=>whnf
  exact⟨_,rfl,_,_,_,rfl,iH o1 (ve true),by rw[aaw];exact(S1.get' 0 _ rfl).2⟩
 ·rw[g1];conv=>whnf
  exact⟨_,rfl,_,_,_,rfl,iH (rI 2) (ve false),by simp⟩
theorem vg(hp:cF pr)(a b:List Item)(ha:ij a)(hb:ij b):dK pr 54 [.sl (a.map Item.enc),.sl (b.map Item.enc)] (.sl ((eI a b).map Item.enc)):=by
 have h:=Q6 hp a b ha hb;refine ff hp rfl rfl ?_;have S:=aj.nil [];conv=>whnf
 refine⟨_,h _,?_⟩;conv=>whnf
 exact⟨_,rfl,_,_,rfl,rfl⟩
theorem Bi{a b:List Item}(ha:ij a)(hb:ij b)(hl:a.length+b.length<=dB):ij (eI a b):=by
 refine⟨aa3 (vc _ a b (aah _)) hl,fun x hx=>?_⟩;obtain⟨y,hy,e⟩:=Bh _ a b (aah _) x hx;rw[e];rcases hy with hy|hy
 ·exact ha.2 y hy
 ·exact hb.2 y hy
def JB(dP:Int):List Item->List dg->List Item
 |z,[]=>z
 |z,p::ps=>JB dP (if p.dP<=dP then eI z p.out else z) ps
theorem Q7(hp:cF pr)(v:View)(dP:Int)(hb:dS v.base=true)(ho: ∀p∈v.aZ,dS p.out=true)(hl:v.aZ.length<=1000000):dK pr 20 [v.enc,i64 dP] (.sl ((JB dP v.base v.aZ).map Item.enc)):=by
 obtain⟨⟨⟨au,n,aD,cells,a,b,aq,agg,col,ao⟩,l,r,ks⟩,bO,base,aZ⟩:=v;simp only at hb ho hl;refine ff hp rfl rfl ?_;have S:=aj.nil [];conv=>whnf
 intro k1 a1 eg er;replace S:=S.alloc eg er
 iterate 3
  all_goals(try(conv=>whnf))
  all_goals(first|(intro iK cp ee bf;replace S:=S.alloc ee bf)|(refine aC (S.row 0 rfl) ?_)|(refine aC (S.row 1 rfl) ?_)|(refine aC (S.row 2 rfl) ?_)|(refine aC (S.row 3 rfl) ?_)|(refine aC (S.row 4 rfl) ?_)|(refine⟨_,rfl,rfl,rfl,.inl ⟨_,S.row 0 rfl,rfl,?_⟩⟩;(conv=>whnf);intro cp bf;replace S:=S.w0 bf)|(refine⟨_,rfl,rfl,rfl,.inl ⟨_,S.row 1 rfl,rfl,?_⟩⟩;(conv=>whnf);intro cp bf;replace S:=S.w1 bf)|(refine⟨_,rfl,rfl,rfl,.inl ⟨_,S.row 2 rfl,rfl,?_⟩⟩;(conv=>whnf);intro cp bf;replace S:=S.w2 bf)|(refine⟨_,rfl,rfl,rfl,.inl ⟨_,S.row 3 rfl,rfl,?_⟩⟩;(conv=>whnf);intro cp bf;replace S:=S.w3 bf)|(refine⟨_,rfl,rfl,rfl,.inl ⟨_,S.row 4 rfl,rfl,?_⟩⟩;(conv=>whnf);intro cp bf;replace S:=S.w4 bf)|(refine ae (fun hb=>?_) (fun hb=>?_))|skip)
 have wJ:ij base/\base.length<=100+100*0:=⟨dC hb,by have:=(dA hb).1;omega⟩;conv=>whnf
 refine iv (fun m tm hp=>∃(j:Nat)(z:List Item),j+m=aZ.length/\tm 5=aI.enc z/\tm 13=i64 (j:Nat)/\(ij z/\z.length<=100+100*j)/\(JB dP base aZ=JB dP z (aZ.drop j))) (fun m tm hq bG hI=>?_) (aZ.length) ⟨0,base,by simp,(by first|rfl|kernel_rfl|simp),(by first|rfl|kernel_rfl|simp),(wJ),(rfl)⟩;obtain⟨j,z,hj,e5,NQ,hz,aF⟩:=hI;have k1:=bG 1 (by kernel_rfl);conv at k1=>rhs;whnf
 rw[<-aR k1];have Wl:=bG 11 (by kernel_rfl);conv at Wl=>rhs;whnf
 rw[<-aR Wl];have Wi:=bG 12 (by kernel_rfl);conv at Wi=>rhs;whnf
 rw[<-aR Wi];rw[<-aR e5];rw[<-aR NQ];clear bG k1 Wl Wi e5 NQ;have S:aj hq []:=aj.nil hq;conv=>whnf
 have gA:j<4611686018427387904:=by omega
 refine ae (fun h1=>?_) (fun h1=>?_)
 ·have bp:j<aZ.length:=by simpa using h1
  have dw:(aZ.map dg.enc)[((j:Nat):Int).toNat]?=some (dg.enc aZ[j]):=by rw[aaa];simp[bp]
  rw[aaf bp]at aF;have hx:=ho _ (aac bp);generalize aZ[j]=x at dw aF hx;obtain⟨t,out⟩:=x;have h2:=vg hp z out hz.1 (dC hx);have yQ:out.length<=100:=(dA hx).1;simp only[JB]at aF;conv=>whnf
  refine⟨_,dw,by omega,rfl,?_⟩
  iterate 3
   all_goals(try(conv=>whnf))
   all_goals(first|(intro iK cp ee bf;replace S:=S.alloc ee bf)|(refine aC (S.row 0 rfl) ?_)|(refine aC (S.row 1 rfl) ?_)|(refine aC (S.row 2 rfl) ?_)|(refine aC (S.row 3 rfl) ?_)|(refine aC (S.row 4 rfl) ?_)|(refine⟨_,rfl,rfl,rfl,.inl ⟨_,S.row 0 rfl,rfl,?_⟩⟩;(conv=>whnf);intro cp bf;replace S:=S.w0 bf)|(refine⟨_,rfl,rfl,rfl,.inl ⟨_,S.row 1 rfl,rfl,?_⟩⟩;(conv=>whnf);intro cp bf;replace S:=S.w1 bf)|(refine⟨_,rfl,rfl,rfl,.inl ⟨_,S.row 2 rfl,rfl,?_⟩⟩;(conv=>whnf);intro cp bf;replace S:=S.w2 bf)|(refine⟨_,rfl,rfl,rfl,.inl ⟨_,S.row 3 rfl,rfl,?_⟩⟩;(conv=>whnf);intro cp bf;replace S:=S.w3 bf)|(refine⟨_,rfl,rfl,rfl,.inl ⟨_,S.row 4 rfl,rfl,?_⟩⟩;(conv=>whnf);intro cp bf;replace S:=S.w4 bf)|(refine ae (fun hb=>?_) (fun hb=>?_))|skip)
  conv=>whnf
  refine ae (fun h3=>?_) (fun h3=>?_)
  ·rw[if_pos (by simpa using h3)]at aF
   iterate 3
    all_goals(try(conv=>whnf))
    all_goals(first|(intro iK cp ee bf;replace S:=S.alloc ee bf)|(refine aC (S.row 0 rfl) ?_)|(refine aC (S.row 1 rfl) ?_)|(refine aC (S.row 2 rfl) ?_)|(refine aC (S.row 3 rfl) ?_)|(refine aC (S.row 4 rfl) ?_)|(refine⟨_,rfl,rfl,rfl,.inl ⟨_,S.row 0 rfl,rfl,?_⟩⟩;(conv=>whnf);intro cp bf;replace S:=S.w0 bf)|(refine⟨_,rfl,rfl,rfl,.inl ⟨_,S.row 1 rfl,rfl,?_⟩⟩;(conv=>whnf);intro cp bf;replace S:=S.w1 bf)|(refine⟨_,rfl,rfl,rfl,.inl ⟨_,S.row 2 rfl,rfl,?_⟩⟩;(conv=>whnf);intro cp bf;replace S:=S.w2 bf)|(refine⟨_,rfl,rfl,rfl,.inl ⟨_,S.row 3 rfl,rfl,?_⟩⟩;(conv=>whnf);intro cp bf;replace S:=S.w3 bf)|(refine⟨_,rfl,rfl,rfl,.inl ⟨_,S.row 4 rfl,rfl,?_⟩⟩;(conv=>whnf);intro cp bf;replace S:=S.w4 bf)|(refine ae (fun hb=>?_) (fun hb=>?_))|(refine⟨_,h2 _,?_⟩)|skip)
   conv=>whnf
   exact⟨m-1,by omega,j+1,eI z out,by omega,rfl,aP j gA,⟨Bi hz.1 (dC hx) (by simp[dB];omega),by have:=vc _ z out (aah _);omega⟩,aF⟩
  ·rw[if_neg (by simpa using h3)]at aF;conv=>whnf
   exact⟨m-1,by omega,j+1,z,by omega,rfl,aP j gA,⟨hz.1,by omega⟩,aF⟩
 ·have bp:j=aZ.length:=by
   have: ¬j<aZ.length:=by simpa using h1
   omega
  subst bp;conv=>whnf
  rw[aal]at aF;refine⟨_,rfl,_,_,rfl,?_⟩;show _=some (af.sl ((JB dP base aZ).map Item.enc));rw[aF];rfl
end Go.Proofs.YtfepbikckfehlaaGreat
set_option maxHeartbeats 4000000
namespace Go.Proofs.YtfepbikckfehlaaGreat
open Go Go.Am
variable{pr:bW}(hp:cF pr)
set_option maxRecDepth 100000
theorem wK(hp:cF pr)(xs:List Int)(hl:xs.length<=dB):dK pr 57 [.sl (xs.map i64)] (.bool (o8 xs)):=by
 refine ff hp rfl rfl ?_;have S:=aj.nil [];conv=>whnf
 refine iv (fun m tm hp=>∃(j:Nat),j+m=xs.length/\tm 3=i64 (j:Nat)/\(xs.all bQ=(xs.drop j).all bQ)) (fun m tm hq bG hI=>?_) (xs.length) ⟨0,by simp,(by first|rfl|kernel_rfl|simp),(rfl)⟩;obtain⟨j,hj,e3,aF⟩:=hI;have k0:=bG 0 (by kernel_rfl);conv at k0=>rhs;whnf
 rw[<-aR k0];rw[<-aR e3];clear bG k0 e3;have S:aj hq []:=aj.nil hq;conv=>whnf
 refine ae (fun h1=>?_) (fun h1=>?_)
 ·have bp:j<xs.length:=by simpa using h1
  have dw:(xs.map i64)[((j:Nat):Int).toNat]?=some (i64 xs[j]):=by rw[aaa];simp[bp]
  have h2:=wx hp xs[j];rw[aaf bp,abi]at aF;generalize xs[j]=x at dw h2 aF;conv=>whnf
  refine⟨_,dw,by omega,rfl,?_⟩
  iterate 3
   all_goals(try(conv=>whnf))
   all_goals(first|(intro iK cp ee bf;replace S:=S.alloc ee bf)|(refine aC (S.row 0 rfl) ?_)|(refine aC (S.row 1 rfl) ?_)|(refine aC (S.row 2 rfl) ?_)|(refine aC (S.row 3 rfl) ?_)|(refine aC (S.row 4 rfl) ?_)|(refine⟨_,rfl,rfl,rfl,.inl ⟨_,S.row 0 rfl,rfl,?_⟩⟩;(conv=>whnf);intro cp bf;replace S:=S.w0 bf)|(refine⟨_,rfl,rfl,rfl,.inl ⟨_,S.row 1 rfl,rfl,?_⟩⟩;(conv=>whnf);intro cp bf;replace S:=S.w1 bf)|(refine⟨_,rfl,rfl,rfl,.inl ⟨_,S.row 2 rfl,rfl,?_⟩⟩;(conv=>whnf);intro cp bf;replace S:=S.w2 bf)|(refine⟨_,rfl,rfl,rfl,.inl ⟨_,S.row 3 rfl,rfl,?_⟩⟩;(conv=>whnf);intro cp bf;replace S:=S.w3 bf)|(refine⟨_,rfl,rfl,rfl,.inl ⟨_,S.row 4 rfl,rfl,?_⟩⟩;(conv=>whnf);intro cp bf;replace S:=S.w4 bf)|(refine ae (fun hb=>?_) (fun hb=>?_))|(refine⟨_,h2 _,?_⟩)|skip)
  all_goals(try(conv=>whnf))
  all_goals first
   |exact br (by simp[o8,aF,hb])
   |exact⟨m-1,by omega,j+1,by omega,aP j (by simp[dB]at hl;omega),by simp[aF,hb]⟩
 ·have bp:j=xs.length:=by
   have: ¬j<xs.length:=by simpa using h1
   omega
  subst bp;have aF:xs.all bQ=true:=by rw[aF];simp
  iterate 6
   all_goals(try(conv=>whnf))
   all_goals(first|(intro iK cp ee bf;replace S:=S.alloc ee bf)|(refine aC (S.row 0 rfl) ?_)|(refine aC (S.row 1 rfl) ?_)|(refine aC (S.row 2 rfl) ?_)|(refine aC (S.row 3 rfl) ?_)|(refine aC (S.row 4 rfl) ?_)|(refine⟨_,rfl,rfl,rfl,.inl ⟨_,S.row 0 rfl,rfl,?_⟩⟩;(conv=>whnf);intro cp bf;replace S:=S.w0 bf)|(refine⟨_,rfl,rfl,rfl,.inl ⟨_,S.row 1 rfl,rfl,?_⟩⟩;(conv=>whnf);intro cp bf;replace S:=S.w1 bf)|(refine⟨_,rfl,rfl,rfl,.inl ⟨_,S.row 2 rfl,rfl,?_⟩⟩;(conv=>whnf);intro cp bf;replace S:=S.w2 bf)|(refine⟨_,rfl,rfl,rfl,.inl ⟨_,S.row 3 rfl,rfl,?_⟩⟩;(conv=>whnf);intro cp bf;replace S:=S.w3 bf)|(refine⟨_,rfl,rfl,rfl,.inl ⟨_,S.row 4 rfl,rfl,?_⟩⟩;(conv=>whnf);intro cp bf;replace S:=S.w4 bf)|(refine ae (fun hb=>?_) (fun hb=>?_))|skip)
  all_goals exact br (by first|(simp_all[o8];done)|(simp_all[o8];omega))
theorem YT(hp:cF pr)(w:Int):dK pr 58 [i64 w] (.bool (Pk w)):=by
 refine ff hp rfl rfl ?_;have S:=aj.nil []
 iterate 8
  all_goals(try(conv=>whnf))
  all_goals(first|(intro iK cp ee bf;replace S:=S.alloc ee bf)|(refine aC (S.row 0 rfl) ?_)|(refine aC (S.row 1 rfl) ?_)|(refine aC (S.row 2 rfl) ?_)|(refine aC (S.row 3 rfl) ?_)|(refine aC (S.row 4 rfl) ?_)|(refine⟨_,rfl,rfl,rfl,.inl ⟨_,S.row 0 rfl,rfl,?_⟩⟩;(conv=>whnf);intro cp bf;replace S:=S.w0 bf)|(refine⟨_,rfl,rfl,rfl,.inl ⟨_,S.row 1 rfl,rfl,?_⟩⟩;(conv=>whnf);intro cp bf;replace S:=S.w1 bf)|(refine⟨_,rfl,rfl,rfl,.inl ⟨_,S.row 2 rfl,rfl,?_⟩⟩;(conv=>whnf);intro cp bf;replace S:=S.w2 bf)|(refine⟨_,rfl,rfl,rfl,.inl ⟨_,S.row 3 rfl,rfl,?_⟩⟩;(conv=>whnf);intro cp bf;replace S:=S.w3 bf)|(refine⟨_,rfl,rfl,rfl,.inl ⟨_,S.row 4 rfl,rfl,?_⟩⟩;(conv=>whnf);intro cp bf;replace S:=S.w4 bf)|(refine ae (fun hb=>?_) (fun hb=>?_))|skip)
 all_goals exact br (by first|(simp_all[Pk];done)|(simp_all[Pk];omega))
theorem Bj(hp:cF pr)(xs ys:List Int)(hx:xs.length<=dB)(hy:ys.length<=dB):dK pr 59 [.sl (xs.map i64),.sl (ys.map i64)] (.bool (fl xs ys)):=by
 have h:=xZ hp xs ys (by simp[dB]at hx;omega) (by simp[dB]at hy;omega) hx;refine ff hp rfl rfl ?_;have S:=aj.nil []
 iterate 4
  all_goals(try(conv=>whnf))
  all_goals(first|(intro iK cp ee bf;replace S:=S.alloc ee bf)|(refine aC (S.row 0 rfl) ?_)|(refine aC (S.row 1 rfl) ?_)|(refine aC (S.row 2 rfl) ?_)|(refine aC (S.row 3 rfl) ?_)|(refine aC (S.row 4 rfl) ?_)|(refine⟨_,rfl,rfl,rfl,.inl ⟨_,S.row 0 rfl,rfl,?_⟩⟩;(conv=>whnf);intro cp bf;replace S:=S.w0 bf)|(refine⟨_,rfl,rfl,rfl,.inl ⟨_,S.row 1 rfl,rfl,?_⟩⟩;(conv=>whnf);intro cp bf;replace S:=S.w1 bf)|(refine⟨_,rfl,rfl,rfl,.inl ⟨_,S.row 2 rfl,rfl,?_⟩⟩;(conv=>whnf);intro cp bf;replace S:=S.w2 bf)|(refine⟨_,rfl,rfl,rfl,.inl ⟨_,S.row 3 rfl,rfl,?_⟩⟩;(conv=>whnf);intro cp bf;replace S:=S.w3 bf)|(refine⟨_,rfl,rfl,rfl,.inl ⟨_,S.row 4 rfl,rfl,?_⟩⟩;(conv=>whnf);intro cp bf;replace S:=S.w4 bf)|(refine ae (fun hb=>?_) (fun hb=>?_))|(refine⟨_,h _,?_⟩)|skip)
 all_goals exact br (by simp_all[fl])
theorem pe(hp:cF pr)(xs ys:List Int)(hx:xs.length<=dB)(hy:ys.length<=dB):dK pr 74 [.sl (xs.map i64),.sl (ys.map i64)] (.bool (fL xs ys)):=by
 have h:=xZ hp xs ys (by simp[dB]at hx;omega) (by simp[dB]at hy;omega) hx;rw[fL,<-tS];refine ff hp rfl rfl ?_;have S:=aj.nil []
 iterate 4
  all_goals(try(conv=>whnf))
  all_goals(first|(intro iK cp ee bf;replace S:=S.alloc ee bf)|(refine aC (S.row 0 rfl) ?_)|(refine aC (S.row 1 rfl) ?_)|(refine aC (S.row 2 rfl) ?_)|(refine aC (S.row 3 rfl) ?_)|(refine aC (S.row 4 rfl) ?_)|(refine⟨_,rfl,rfl,rfl,.inl ⟨_,S.row 0 rfl,rfl,?_⟩⟩;(conv=>whnf);intro cp bf;replace S:=S.w0 bf)|(refine⟨_,rfl,rfl,rfl,.inl ⟨_,S.row 1 rfl,rfl,?_⟩⟩;(conv=>whnf);intro cp bf;replace S:=S.w1 bf)|(refine⟨_,rfl,rfl,rfl,.inl ⟨_,S.row 2 rfl,rfl,?_⟩⟩;(conv=>whnf);intro cp bf;replace S:=S.w2 bf)|(refine⟨_,rfl,rfl,rfl,.inl ⟨_,S.row 3 rfl,rfl,?_⟩⟩;(conv=>whnf);intro cp bf;replace S:=S.w3 bf)|(refine⟨_,rfl,rfl,rfl,.inl ⟨_,S.row 4 rfl,rfl,?_⟩⟩;(conv=>whnf);intro cp bf;replace S:=S.w4 bf)|(refine ae (fun hb=>?_) (fun hb=>?_))|(refine⟨_,h _,?_⟩)|skip)
 all_goals exact br hb.symm
theorem iU(hp:cF pr)(z:List Item)(hz:ij z):dK pr 23 [.sl (z.map Item.enc)] (.bool (dS z)):=by
 obtain⟨hl,hr⟩:=hz;refine ff hp rfl rfl ?_;have S:=aj.nil [];conv=>whnf
 refine ae (fun h0=>?_) (fun h0=>?_)
 ·conv=>whnf
  exact br (by have: ¬z.length<=100:=by simp at h0;omega
               simp[dS,this])
 have hz:dS z=DJ none z:=by
  have:z.length<=100:=by simp at h0;omega
  simp[dS,this]
 rw[hz];clear hz h0;conv=>whnf
 refine iv (fun m tm hp=>∃(j:Nat),j+m=z.length/\tm 3=i64 (j:Nat)/\(DJ none z=DJ (mY (z.take j)) (z.drop j))) (fun m tm hq bG hI=>?_) (z.length) ⟨0,by simp,(by first|rfl|kernel_rfl|simp),(by simp[mY])⟩;obtain⟨j,hj,e3,aF⟩:=hI;have k0:=bG 0 (by kernel_rfl);conv at k0=>rhs;whnf
 rw[<-aR k0];rw[<-aR e3];clear bG k0 e3;have S:aj hq []:=aj.nil hq;conv=>whnf
 refine ae (fun h1=>?_) (fun h1=>?_)
 ·have bp:j<z.length:=by simpa using h1
  have dw:(z.map Item.enc)[((j:Nat):Int).toNat]?=some (Item.enc z[j]):=by rw[aaa];simp[bp]
  have fF:=nY bp;have eQ:=hr z[j] (aac bp);rw[aaf bp]at aF;simp only[DJ]at aF;have h4:=YT hp z[j].w
  cases j with
  |zero=>
   have jf:mY (z.take 0)=none:=by simp[mY]
   rw[jf]at aF;generalize z[0]=x at dw eQ aF fF h4;obtain⟨row,w⟩:=x;have h2:=wK hp row eQ
   iterate 20
    all_goals(try(conv=>whnf))
    all_goals(first|(refine⟨_,dw,by omega,rfl,?_⟩)|(intro iK cp ee bf;replace S:=S.alloc ee bf)|(refine aC (S.row 0 rfl) ?_)|(refine aC (S.row 1 rfl) ?_)|(refine aC (S.row 2 rfl) ?_)|(refine aC (S.row 3 rfl) ?_)|(refine aC (S.row 4 rfl) ?_)|(refine⟨_,rfl,rfl,rfl,.inl ⟨_,S.row 0 rfl,rfl,?_⟩⟩;(conv=>whnf);intro cp bf;replace S:=S.w0 bf)|(refine⟨_,rfl,rfl,rfl,.inl ⟨_,S.row 1 rfl,rfl,?_⟩⟩;(conv=>whnf);intro cp bf;replace S:=S.w1 bf)|(refine⟨_,rfl,rfl,rfl,.inl ⟨_,S.row 2 rfl,rfl,?_⟩⟩;(conv=>whnf);intro cp bf;replace S:=S.w2 bf)|(refine⟨_,rfl,rfl,rfl,.inl ⟨_,S.row 3 rfl,rfl,?_⟩⟩;(conv=>whnf);intro cp bf;replace S:=S.w3 bf)|(refine⟨_,rfl,rfl,rfl,.inl ⟨_,S.row 4 rfl,rfl,?_⟩⟩;(conv=>whnf);intro cp bf;replace S:=S.w4 bf)|(refine ae (fun hb=>?_) (fun hb=>?_))|(refine⟨_,h2 _,?_⟩)|(refine⟨_,h4 _,?_⟩)|skip)
   all_goals(try(conv=>whnf))
   all_goals first
    |exact br (by clear dw fF h2 h4 hr eQ;simp_all)
    |exact⟨m-1,by omega,1,by omega,aP 0 (by omega),by rw[fF,aF];clear dw fF h2 h4 hr eQ aF;simp_all⟩
  |succ i=>
   have jf:=nY (z:=z) (j:=i) (by omega);rw[jf]at aF;have hw:IntKind.i64.wrap (((i+1:Nat):Int)-1)=(i:Nat):=by rw[aaC];simp[dB]at hl;omega
   have sm:(z.map Item.enc)[(IntKind.i64.wrap (((i+1:Nat):Int)-1)).toNat]?=some (Item.enc z[i]):=by rw[hw,aaa];simp[show i<z.length by omega]
   have wG:=hr z[i] (aac (by omega));generalize z[i+1]=x at dw eQ aF fF h4;generalize z[i]=y at sm wG aF jf;obtain⟨row,w⟩:=x;obtain⟨Ih,w2⟩:=y;have h2:=wK hp row eQ;have h3:=Bj hp Ih row wG eQ
   iterate 26
    all_goals(try(conv=>whnf))
    all_goals(first|(refine⟨_,sm,by omega,rfl,?_⟩)|(refine⟨_,dw,by omega,rfl,?_⟩)|(intro iK cp ee bf;replace S:=S.alloc ee bf)|(refine aC (S.row 0 rfl) ?_)|(refine aC (S.row 1 rfl) ?_)|(refine aC (S.row 2 rfl) ?_)|(refine aC (S.row 3 rfl) ?_)|(refine aC (S.row 4 rfl) ?_)|(refine⟨_,rfl,rfl,rfl,.inl ⟨_,S.row 0 rfl,rfl,?_⟩⟩;(conv=>whnf);intro cp bf;replace S:=S.w0 bf)|(refine⟨_,rfl,rfl,rfl,.inl ⟨_,S.row 1 rfl,rfl,?_⟩⟩;(conv=>whnf);intro cp bf;replace S:=S.w1 bf)|(refine⟨_,rfl,rfl,rfl,.inl ⟨_,S.row 2 rfl,rfl,?_⟩⟩;(conv=>whnf);intro cp bf;replace S:=S.w2 bf)|(refine⟨_,rfl,rfl,rfl,.inl ⟨_,S.row 3 rfl,rfl,?_⟩⟩;(conv=>whnf);intro cp bf;replace S:=S.w3 bf)|(refine⟨_,rfl,rfl,rfl,.inl ⟨_,S.row 4 rfl,rfl,?_⟩⟩;(conv=>whnf);intro cp bf;replace S:=S.w4 bf)|(refine ae (fun hb=>?_) (fun hb=>?_))|(refine⟨_,h2 _,?_⟩)|(refine⟨_,h3 _,?_⟩)|(refine⟨_,h4 _,?_⟩)|skip)
   all_goals(try(conv=>whnf))
   all_goals first
    |exact br (by clear dw sm fF h2 h3 h4 hr eQ wG hw jf;simp_all)
    |exact⟨m-1,by omega,i+1+1,by omega,aP (i+1) (by simp[dB]at hl;omega),by rw[fF,aF];clear dw sm fF h2 h3 h4 hr eQ wG aF hw jf;simp_all⟩
 ·have bp:j=z.length:=by
   have: ¬j<z.length:=by simpa using h1
   omega
  subst bp;rw[aal]at aF;conv=>whnf
  exact br (by rw[aF];rfl)
def hY:List Item->List Int->Int->List Item
 | [],r,w=>if w==0 then []else [⟨r,w⟩]
 |x::xs,r,w=>if fl x.row r then x::hY xs r w
  else if fL x.row r then(if lK x.w w==0 then xs else⟨x.row,lK x.w w⟩::xs)
  else if w==0 then x::xs else⟨r,w⟩::x::xs
def dt(a b:List Item):List Item:=b.foldl (fun z x=>hY z x.row x.w) a
theorem DL{A B:List Item}{r:List Int}{w:Int}(h: ∀x∈A,fl x.row r=true):hY (A++B) r w=A++hY B r w:=by
 induction A with
 |nil=>rfl
 |cons x xs ih=>
  simp only[abD,hY];rw[if_pos (h x (by simp)),ih fun y hy=>h y (by simp[hy])]
theorem wL(z:List Item)(r:List Int)(w:Int):(hY z r w).length<=z.length+1:=by
 induction z with
 |nil=>unfold hY;split<;>simp
 |cons x xs ih=>
  unfold hY
  repeat' split
  all_goals simp only[aak]at*
  all_goals omega
theorem qM{z:List Item}{r:List Int}{w:Int}: ∀x∈hY z r w,x.row=r∨ ∃y∈z,x.row=y.row:=by
 induction z with
 |nil=>intro x hx;unfold hY at hx;split at hx<;>simp at hx;subst hx;exact .inl rfl
 |cons y ys ih=>
  intro x hx;unfold hY at hx;split at hx
  ·rcases aaz.1 hx with rfl|hx
   ·exact .inr ⟨x,by simp,rfl⟩
   ·rcases ih x hx with h|⟨u,hu,e⟩
    ·exact .inl h
    ·exact .inr ⟨u,by simp[hu],e⟩
  ·split at hx
   ·split at hx
    ·exact .inr ⟨x,by simp[hx],rfl⟩
    ·rcases aaz.1 hx with rfl|hx
     ·exact .inr ⟨y,by simp,rfl⟩
     ·exact .inr ⟨x,by simp[hx],rfl⟩
   ·split at hx
    ·exact .inr ⟨x,hx,rfl⟩
    ·rcases aaz.1 hx with rfl|hx
     ·exact .inl rfl
     ·exact .inr ⟨x,hx,rfl⟩
theorem Iq{z:List Item}{r:List Int}{w:Int}(hz: ∀x∈z,x.row.length<=dB)(hr:r.length<=dB): ∀x∈hY z r w,x.row.length<=dB:=fun x hx=>by
 rcases qM x hx with e|⟨y,hy,e⟩
 ·rw[e];exact hr
 ·rw[e];exact hz y hy
theorem gx{a b:List Item}(ha: ∀x∈a,x.row.length<=dB)(hb: ∀x∈b,x.row.length<=dB):(dt a b).length<=a.length+b.length/\ ∀x∈dt a b,x.row.length<=dB:=by
 unfold dt
 induction b generalizing a with
 |nil=>exact⟨by simp,ha⟩
 |cons y ys ih=>
  have h1:=wL a y.row y.w;obtain⟨h2,h3⟩:=ih (a:=hY a y.row y.w) (Iq ha (hb y (by simp))) fun x hx=>hb x (by simp[hx]);simp only[List.foldl_cons,aak];exact⟨by omega,h3⟩
theorem cZ.at{h:aG}{A B:List bg}{d:bg}{vs:List af}{F:List Nat}(ho:cZ h (A++d::B) vs F): ∃v F1,vs[A.length]?=some v/\cq h d v F1:=by
 obtain⟨v1,v2,F1,F2,rfl,rfl,h1,h2⟩:=o6 ho;simp only[cZ]at h2;obtain⟨v,fx,G1,G2,rfl,rfl,h3,h4⟩:=h2;exact⟨v,G1,by rw[<-iw h1];simp,h3⟩
theorem Item.open{h:aG}{x:Item}{v:af}{F:List Nat}(ho:cq h x.d v F): ∃P,v= .agg [P,i64 x.w]/\cq h (iR.d x.row) P F:=by
 obtain⟨r,w⟩:=x;obtain⟨vv,rfl,hu⟩:=iF.1 ho;obtain⟨P,w1,G1,G2,rfl,rfl,gP,DC⟩:=l6.1 hu;obtain⟨w2,rfl,TQ⟩:=pc.1 DC;obtain⟨rfl,rfl⟩:=fO.1 TQ;exact⟨P,rfl,by rw[aaw];exact gP⟩
theorem iR.snap{h:aG}{r:List Int}{v:af}{F:List Nat}(ho:cq h (iR.d r) v F):Am.snap h v=some (.sl (r.map i64)):=by
 have hi: ∀ys:List Int,bg.dO (ys.map bg.i)<=1:=fun ys=>by induction ys with|nil=>simp[bg.dO]|cons y ys ih=>simp only[aao,bg.dO,bg.dep];omega
 have:=ho.snap (by have:=hi r;simp only[iR.d,bg.dep];omega);rw[this];simp only[iR.d,bg.enc,bg.xX]
theorem ng{h:aG}{L:List Chunk}{id sz len:Nat}{es ys:List af}{K:af->aG->Prop}(S:aj h (.row id (.arr sz es)::L))(hlen:len<=es.length)(hl:len+ys.length<=bB)
  (hK: ∀k h',aj h' (.row k (.arr sz (es.take len++ys))::L)->K (.own k 0 (len+ys.length)) h'):Kk h sz (.own id 0 len) ys K:=by
   refine⟨es,S.row 0 rfl,rfl,hlen,?_⟩
   by_cases hy:ys=[]
   ·subst hy;refine .inl ⟨rfl,fun h' e=>?_⟩;have S1:=S.set 0 rfl e;dsimp only[List.set]at S1;exact hK id h' (by simpa using S1)
   ·refine .inr ⟨hy,hl,fun k h' e1 e2=>?_⟩;have S1:=S.move 0 rfl e1 e2;dsimp only[List.eraseIdx]at S1;have:=hK k h' S1;rw[abv,List.length_take,Nat.min_eq_left hlen];exact this
theorem tT{h:aG}{id sz st n:Nat}{es ys:List af}(hi:h[id]?=some (.arr sz es))(hn:st+n<=es.length)(hy:(es.drop st).take n=ys):lN h (.own id st n)=some ys:=by
 simp only[lN,hi,hn,if_true,hy]
theorem Q8{h:aG}{B:List Item}: ∀{vs:List af}{F:List Nat},cZ h (B.map Item.d) vs F->vs.all (jh 2)=true:=by
 induction B with
 |nil=>intro vs F ho;simp only[abA,cZ]at ho;rw[ho.1];rfl
 |cons b B ih=>
  intro vs F ho;simp only[aao,cZ]at ho;obtain⟨v,fx,F1,F2,rfl,rfl,h1,h2⟩:=ho;rw[abi,ih h2,Bool.and_true];obtain⟨r,w⟩:=b;obtain⟨vv,rfl,hu⟩:=iF.1 h1;obtain⟨P,w1,G3,G4,rfl,rfl,gP,DC⟩:=l6.1 hu;obtain⟨w2,rfl,TQ⟩:=pc.1 DC;obtain⟨rfl,rfl⟩:=fO.1 TQ;have:=fi (cs:=[P,i64 w]) (sz:=2) rfl (bM gP.cell.2 rfl)
  rwa [abi,List.all_nil,Bool.and_true]at this
theorem aj.Q9{h:aG}{L:List Chunk}{d:bg}{ds:List bg}{v:af}{vs:List af}{F1 F2:List Nat}(s:aj h (.dL d v F1:: .ed ds vs F2::L)):aj h (.ed (d::ds) (v::vs) (F1++F2)::L):=
 s.merge (e:=.ed (d::ds) (v::vs) (F1++F2)) (by show cZ _ _ _ _;simp only[cZ];exact⟨v,vs,F1,F2,rfl,rfl,s.get 0 rfl,s.get 1 rfl⟩) (fun id dm=>aaS.1 dm) (by
  have:=s.swap.KN;exact this)
theorem aj.MH{h:aG}{L:List Chunk}{ds es:List bg}{vs us:List af}{F1 F2:List Nat}(s:aj h (.ed ds vs F1:: .ed es us F2::L)):aj h (.ed (ds++es) (vs++us) (F1++F2)::L):=
 s.merge (e:=.ed (ds++es) (vs++us) (F1++F2)) (lB (s.get 0 rfl) (s.get 1 rfl)) (fun id dm=>aaS.1 dm) s.swap.KN
theorem aj.Wm{h:aG}{L:List Chunk}{A B:List Item}{b:Item}{vs:List af}{F:List Nat}(S:aj h (.ed ((A++b::B).map Item.d) vs F::L)):
  ∃VA P VB F0 G F2,vs=VA++ .agg [P,i64 b.w]::VB/\VA.length=A.length/\aj h (.ed (A.map Item.d) VA F0:: .dL (iR.d b.row) P G:: .ed (B.map Item.d) VB F2::L):=by
   have h1:cZ h ((A++b::B).map Item.d) vs F:=S.get 0 rfl;rw[aaD,aao]at h1;obtain⟨v1,v2,F1,F2,rfl,rfl,h2,h3⟩:=o6 h1;simp only[cZ]at h3;obtain⟨v,fx,G1,G2,rfl,rfl,h4,h5⟩:=h3;obtain⟨r,w⟩:=b;obtain⟨vv,rfl,hu⟩:=iF.1 h4;obtain⟨P,w1,G3,G4,rfl,rfl,gP,DC⟩:=l6.1 hu;obtain⟨w2,rfl,TQ⟩:=pc.1 DC;obtain⟨rfl,rfl⟩:=fO.1 TQ;refine⟨v1,P,fx,F1,G3,G2,rfl,by simpa using iw h2,S.Q2 [.ed (A.map Item.d) v1 F1,.dL (iR.d r) P G3,.ed (B.map Item.d) fx G2] (by simp[Chunk.dL,Chunk.ed]) ?_⟩;intro d hd;simp only[aaz,List.not_mem_nil,or_false]at hd;rcases hd with rfl|rfl|rfl
   ·exact h2
   ·exact gP
   ·exact h5
theorem aj.KT{h:aG}{L:List Chunk}{A B:List Item}{row:List Int}{w:Int}{VA VB:List af}{P:af}{F0 G F2:List Nat}(S:aj h (.ed (A.map Item.d) VA F0:: .dL (iR.d row) P G:: .ed (B.map Item.d) VB F2::L)):
  ∃F,aj h (.ed ((A++⟨row,w⟩::B).map Item.d) (VA++ .agg [P,i64 w]::VB) F::L):=by
   have S1:=S.front 1 rfl;dsimp only[List.eraseIdx]at S1;have S2:=S1.is (c':=.dL (Item.d ⟨row,w⟩) (.agg [P,i64 w]) (G++[])) (iF.2 ⟨_,rfl,jD (S1.get 0 rfl) (fh iL)⟩) (by simp[Chunk.dL]);have S3:=(S2.front 2 rfl).swap;dsimp only[List.eraseIdx]at S3;have S4:=aj.MH ((aj.Q9 S3).swap);exact⟨_,by rw[aaD,aao];exact S4⟩
end Go.Proofs.YtfepbikckfehlaaGreat

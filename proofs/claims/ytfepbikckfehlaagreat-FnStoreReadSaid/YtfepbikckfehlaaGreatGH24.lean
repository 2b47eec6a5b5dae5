/- By how much a join is turned: the reference's. -/
import Derived.Test.YtfepbikckfehlaaGreatGH23
set_option linter.unusedVariables false
set_option linter.unusedSimpArgs false
set_option maxHeartbeats 4000000
namespace Go.Proofs.YtfepbikckfehlaaGreat
open Go Go.Am
variable{pr:bL}(hp:bV pr)
set_option maxRecDepth 100000
def nV:Option (List Item)->List Item×Bool
 |some z=>(z,true)
 |none=>([],false)
theorem Bl{h:aC}{L:List Chunk}{z:List Item}{v:af}{F:List Nat}(S:ah h (.iA 2 (z.map Item.d) v F::L))(b:Bool):bZ h [aE.d z,.b b] [v,.bool b] (F++[])/\(F++[]).Nodup:=
 ⟨eW ((ah.dv S).get 0 rfl) (tJ b),by rw[aU];exact(S.get' 0 _ rfl).2⟩
theorem jn(h:aC):bZ h [aE.d [],.b false] [.nil,.bool false] ([]++[])/\(([]:List Nat)++[]).Nodup:=⟨eW (jO 2) (tJ false),by simp⟩
theorem pB{h:aC}{L:List Chunk}{z:List Item}{v:af}{F:List Nat}(S:ah h (.iA 2 (z.map Item.d) v F::L)):Am.snap h v=some (aE.enc z):=aE.fU ((ah.dv S).get 0 rfl)
include hp in
theorem pC{z:List Item}(hz:gi z){v:af}{F:List Nat}{h:aC}{L:List Chunk}(S:ah h (.iA 2 (z.map Item.d) v F::L)){K:dz->Prop}
  (hK:c7 z=true->K (.ret (.dX [v,.bool true]) h)) (hK2:c7 z=false->K (.ret (.dX [.nil,.bool false]) h)): ∃r,bN (du pr) (call (du pr)) 154 [v] h=some r/\K r:=by
   rw[mh rfl];have h1:=(gu hp z hz).here (args:=[v]) (oR (pB S)) rfl rfl;refine cS (hp.out _ rfl) ?_;conv=>whnf
   refine⟨_,h1,?_⟩;conv=>whnf
   refine ae (fun g1=>?_) (fun g1=>?_)
   ·conv=>whnf
    exact⟨_,rfl,hK g1⟩
   ·conv=>whnf
    exact⟨_,rfl,hK2 g1⟩
theorem Mp(P:Item->Bool){z:List Item}{j:Nat}(h:j<z.length):(z.take (j+1)).filter P=if P z[j]then(z.take j).filter P++[z[j]]else(z.take j).filter P:=by
 rw[dn h,List.filter_append];split<;>simp_all
theorem Pv(Q:Item->Bool){z:List Item}{j:Nat}(h:j<z.length):(z.take (j+1)).all Q=((z.take j).all Q&&Q z[j]):=by
 rw[dn h,List.all_append];simp
theorem RN{Q:Item->Bool}{z:List Item}{j:Nat}(h:j<z.length)(hb:Q z[j]=false):z.all Q=false:=by
 rw[List.all_eq_false];exact⟨_,ay h,by rw[hb];simp⟩
theorem so(a b:List Item)(x:Item):ct a (b++[x])=fT (ct a b) x.row x.w:=by simp[ct,List.foldl_append]
theorem uU{b:List Item}(hb:gi b):(ct [] b).length<=b.length/\ ∀x∈ct [] b,x.row.length<=cM:=by
 have:=fp (a:=[]) (b:=b) (by simp) hb.2;simpa using this
theorem Gp{z:List Item}(P:Item->Bool)(j:Nat)(hz:gi z):gi ((z.take j).filter P):=
 ⟨bw (List.length_filter_le _ _) (bw (List.length_take_le' _ _) hz.1),fun x hx=>hz.2 x (List.mem_of_mem_take (List.mem_filter.1 hx).1)⟩
def qo(z:List Item)(t:Test):Option (List Item):=if c7 z&&z.all (fun x=>(iX t x.row).2)then some (ct [] (z.filter fun x=>(iX t x.row).1))else none
theorem Ja(hp:bV pr)(z:List Item)(t:Test)(hz:gi z):lu pr 144 [aE.enc z,t.enc] [aE.d (nV (qo z t)).1,.b (nV (qo z t)).2]:=by
 have h1:=gu hp z hz;have h2:=fun(x:Item)(hx:x∈z)=>Ml hp t x.row (hz.2 x hx);have aN:qo z t=qo z t:=rfl;conv at aN=>rhs;unfold qo
 generalize qo z t=res at aN⊢;have hl:=hz.1;refine fN hp rfl ?_;have S:ah [] []:=ah.nil [];conv=>whnf
 intro k1 a1 dw dC;replace S:=S.alloc dw dC;conv=>whnf
 refine⟨_,h1 _,?_⟩;conv=>whnf
 refine ae (fun g1=>?_) (fun g1=>?_)
 ·rw[g1,aX]at aN;conv=>whnf
  replace S:=ah.j7 2 S;refine dh (fun m tm hp=>∃(j:Nat)(D:af)(F:List Nat),j+m=z.length/\tm 6=D/\tm 7=i64 (j:Nat)/\ah hp [.iA 2 ((ct [] ((z.take j).filter fun x=>(iX t x.row).1)).map Item.d) D F,.row k1 (.box t.enc)]/\((z.take j).all (fun x=>(iX t x.row).2)=true)) (fun m tm hq bz hI=>?_) (z.length) ⟨0,.nil,[],by simp,rfl,rfl,S,(rfl)⟩;obtain⟨j,D,F,hj,e6,e7,S2,aD⟩:=hI;have k0:=bz 0 (by kernel_rfl);conv at k0=>rhs;whnf
  have k3:=bz 3 (by kernel_rfl);conv at k3=>rhs;whnf
  refine⟨[(0,_),(3,_),(6,_),(7,_)],⟨k0,k3,e6,e7,trivial⟩,?_⟩;clear bz k0 k3 e6 e7;replace S:=S2;clear S2;conv=>whnf
  have fw:j<4611686018427387904:=by simp[cM]at hl;omega
  refine ae (fun h1=>?_) (fun h1=>?_)
  ·have bq:j<z.length:=by simpa using h1
   have cx:(z.map Item.enc)[((j:Nat):Int).toNat]?=some (Item.enc z[j]):=by rw[aq];simp[bq]
   have ht:=h2 _ (ay bq);have cY:=Mp (fun x=>(iX t x.row).1) bq;have eM:=Pv (fun x=>(iX t x.row).2) bq;have fC:=RN (Q:=fun x=>(iX t x.row).2) bq;have Gq:=uU (Gp (fun x=>(iX t x.row).1) j hz);have hz2:=(Gp (fun x=>(iX t x.row).1) j hz).1;have dT:=hz.2 _ (ay bq);generalize z[j]=x at cx ht cY eM fC dT;obtain⟨row,w⟩:=x;simp only at ht cY eM fC dT;rw[aD,aX]at eM;rcases VC:iX t row with⟨a,b⟩;rw[VC]at ht cY eM fC;simp only at ht cY eM fC;conv=>whnf
   refine aI (S.row 1 rfl) ?_;conv=>whnf
   refine⟨_,cx,by omega,rfl,?_⟩;conv=>whnf
   refine⟨_,ht _,?_⟩
   cases b with
   |false=>
    have:res=none:=by rw[aN,fC rfl];rfl
    subst this
    iterate 4
     all_goals(try(conv=>whnf))
     all_goals(first|(intro ke cg er bn;replace S:=S.alloc er bn)|(refine .inl ⟨_,S.row 0 rfl,rfl,?_⟩)|(refine⟨_,rfl,rfl,rfl,.inl ⟨_,S.row 0 rfl,rfl,?_⟩⟩;(conv=>whnf);intro cg bn;replace S:=S.w0 bn)|(refine ae (fun hb=>?_) (fun hb=>?_))|skip)
    all_goals(try(conv=>whnf))
    all_goals exact⟨_,rfl,_,_,_,rfl,jn _⟩
   |true=>
    cases a with
    |false=>
     rw[if_neg (by simp)]at cY;conv=>whnf
     exact⟨m-1,by omega,j+1,D,F,by omega,rfl,aQ j fw,by rw[cY];exact S,eM⟩
    |true=>
     rw[if_pos rfl]at cY;conv=>whnf
     refine⟨_,cx,by omega,rfl,?_⟩;conv=>whnf
     refine⟨_,cx,by omega,rfl,?_⟩;conv=>whnf
     refine kG hp _ row w _ (by omega) Gq.2 dT S (fun h' _=>wz h' row) fun v' h' F' S1=>?_;conv=>whnf
     exact⟨m-1,by omega,j+1,_,_,by omega,rfl,aQ j fw,by rw[cY,so];exact S1,eM⟩
  ·have bq:j=z.length:=by
    have: ¬j<z.length:=by simpa using h1
    omega
   subst bq;rw[aS]at S aD;rw[aD,if_pos rfl]at aN;subst aN;conv=>whnf
   exact⟨_,rfl,_,_,_,rfl,Bl S true⟩
 ·rw[g1]at aN;have:res=none:=by rw[aN];rfl
  subst this;conv=>whnf
  exact⟨_,rfl,_,_,_,rfl,jn _⟩
end Go.Proofs.YtfepbikckfehlaaGreat
set_option maxHeartbeats 4000000
namespace Go.Proofs.YtfepbikckfehlaaGreat
open Go Go.Am
variable{pr:bL}(hp:bV pr)
set_option maxRecDepth 100000
def Td:Option (List Int)->List Int×Bool
 |some z=>(z,true)
 |none=>([],false)
def cellsOf(cells:List Cell)(r:List Int):Option (List Int):=if cells.all (fun c=>(cellOf c r).2)then some (cells.map fun c=>(cellOf c r).1)else none
theorem js{α β:Type}(f:α->β){z:List α}{j:Nat}(h:j<z.length):(z.take (j+1)).map f=(z.take j).map f++[f z[j]]:=by
 rw[dn h,bd];rfl
theorem lz{α:Type}(Q:α->Bool){z:List α}{j:Nat}(h:j<z.length):(z.take (j+1)).all Q=((z.take j).all Q&&Q z[j]):=by
 rw[dn h,List.all_append];simp
theorem nq{α:Type}{Q:α->Bool}{z:List α}{j:Nat}(h:j<z.length)(hb:Q z[j]=false):z.all Q=false:=by
 rw[List.all_eq_false];exact⟨_,ay h,by rw[hb];simp⟩
theorem Mq(hp:bV pr)(cells:List Cell)(r:List Int)(hl:cells.length<=cM)(hr:r.length<=cM):lu pr 153 [.sl (cells.map Cell.enc),.sl (r.map i64)] [gq.d (Td (cellsOf cells r)).1,.b (Td (cellsOf cells r)).2]:=by
 have h2:=fun c=>wx hp c r hr;have aN:cellsOf cells r=cellsOf cells r:=rfl;conv at aN=>rhs;unfold cellsOf
 generalize cellsOf cells r=res at aN⊢;refine fN hp rfl ?_;have S:ah [] []:=ah.nil [];conv=>whnf
 replace S:=ah.ma i64 1 S;refine dh (fun m tm hp=>∃(j:Nat)(D:af),j+m=cells.length/\tm 6=D/\tm 7=i64 (j:Nat)/\ah hp [.acc i64 1 ((cells.take j).map fun c=>(cellOf c r).1) D]/\((cells.take j).all (fun c=>(cellOf c r).2)=true)) (fun m tm hq bz hI=>?_) (cells.length) ⟨0,.nil,by simp,rfl,rfl,S,(rfl)⟩;obtain⟨j,D,hj,e6,e7,S2,aD⟩:=hI;have k0:=bz 0 (by kernel_rfl);conv at k0=>rhs;whnf
 have k1:=bz 1 (by kernel_rfl);conv at k1=>rhs;whnf
 refine⟨[(0,_),(1,_),(6,_),(7,_)],⟨k0,k1,e6,e7,trivial⟩,?_⟩;clear bz k0 k1 e6 e7;replace S:=S2;clear S2;conv=>whnf
 have fw:j<4611686018427387904:=by simp[cM]at hl;omega
 refine ae (fun h1=>?_) (fun h1=>?_)
 ·have bq:j<cells.length:=by simpa using h1
  have cx:(cells.map Cell.enc)[((j:Nat):Int).toNat]?=some (Cell.enc cells[j]):=by rw[aq];simp[bq]
  have ht:=h2 cells[j];have cY:=js (fun c=>(cellOf c r).1) bq;have eM:=lz (fun c=>(cellOf c r).2) bq;have fC:=nq (Q:=fun c=>(cellOf c r).2) bq;generalize cells[j]=c at cx ht cY eM fC;rw[aD,aX]at eM;rcases VC:cellOf c r with⟨a,b⟩;rw[VC]at ht cY eM fC;simp only at ht cY eM fC;obtain⟨k,ca,cb,n⟩:=c;conv=>whnf
  refine⟨_,cx,by omega,rfl,?_⟩;conv=>whnf
  refine⟨_,ht _,?_⟩
  cases b with
  |false=>
   have:res=none:=by rw[aN,fC rfl];rfl
   subst this;conv=>whnf
   exact⟨_,rfl,_,_,_,rfl,eW (jO 1) (tJ false),by simp⟩
  |true=>
   conv=>whnf
   intro nM nN de dg;replace S:=S.alloc de dg;conv=>whnf
   refine⟨trivial,?_⟩;conv=>whnf
   refine⟨[_],bG (S.row 0 rfl),cQ rfl rfl,?_⟩;replace S:=S.drop 0;dsimp only[List.eraseIdx]at S;refine oQ (f:=i64) (x:=a) S (by simp[br,cM]at*;omega) fun k2 BF S2 _=>?_;conv=>whnf
   exact⟨m-1,by omega,j+1,_,by omega,rfl,aQ j fw,by rw[cY];exact S2,eM⟩
 ·have bq:j=cells.length:=by
   have: ¬j<cells.length:=by simpa using h1
   omega
  subst bq;rw[aS]at S aD;rw[aD,if_pos rfl]at aN;subst aN;conv=>whnf
  exact⟨_,rfl,_,_,_,rfl,eW ((ah.jc S).get 0 rfl) (tJ true),by rw[aU];exact((ah.jc S).get' 0 _ rfl).2⟩
def ot(z:List Item):Option (List Item):=if c7 z then some z else none
def Dy(z:List Item)(cells:List Cell):Option (List Item):=
 if c7 z&&(decide (1<=cells.length)&&decide (cells.length<=6))&&z.all (fun x=>(cellsOf cells x.row).isSome)then ot (ct [] (z.map fun x=>⟨((cellsOf cells x.row).getD []),x.w⟩))else none
theorem zV{z:List Item}{cells:List Cell}(hz:z.length<=cM)(hc:cells.length<=6):gi (z.map fun x=>(⟨((cellsOf cells x.row).getD []),x.w⟩:Item)):=by
 refine⟨by simpa using hz,fun y hy=>?_⟩;obtain⟨x,_,rfl⟩:=bj.1 hy;simp only;unfold cellsOf;split
 ·simp[cM];omega
 ·simp
theorem Pw(hp:bV pr)(z:List Item)(cells:List Cell)(hz:gi z)(hc:cells.length<=cM):lu pr 145 [aE.enc z,.sl (cells.map Cell.enc)] [aE.d (nV (Dy z cells)).1,.b (nV (Dy z cells)).2]:=by
 have h1:=gu hp z hz;have h2:=fun(x:Item)(hx:x∈z)=>Mq hp cells x.row hc (hz.2 x hx);have aN:Dy z cells=Dy z cells:=rfl;conv at aN=>rhs;unfold Dy
 generalize Dy z cells=res at aN⊢;have hl:=hz.1;refine fN hp rfl ?_;have S:ah [] []:=ah.nil [];conv=>whnf
 refine⟨_,h1 _,?_⟩;conv=>whnf
 refine ae (fun g1=>?_) (fun g1=>?_)
 rotate_left
 ·rw[g1]at aN;have:res=none:=by rw[aN];rfl
  subst this;conv=>whnf
  exact⟨_,rfl,_,_,_,rfl,jn _⟩
 rw[g1]at aN;conv=>whnf
 refine ae (fun g2=>?_) (fun g2=>?_)
 ·have:res=none:=by rw[aN,if_neg];simp at g2;simp;omega
  subst this;conv=>whnf
  exact⟨_,rfl,_,_,_,rfl,jn _⟩
 conv=>whnf
 refine ae (fun g3=>?_) (fun g3=>?_)
 ·have:res=none:=by rw[aN,if_neg];simp at g3;simp;omega
  subst this;conv=>whnf
  exact⟨_,rfl,_,_,_,rfl,jn _⟩
 have KP:1<=cells.length/\cells.length<=6:=by simp at g2 g3;omega
 rw[show(true&&(decide (1<=cells.length)&&decide (cells.length<=6)))=true by simp[KP],aX]at aN;conv=>whnf
 replace S:=ah.j7 2 S;refine dh (fun m tm hp=>∃(j:Nat)(D:af)(F:List Nat),j+m=z.length/\tm 6=D/\tm 7=i64 (j:Nat)/\ah hp [.iA 2 ((ct [] ((z.take j).map fun x=>⟨((cellsOf cells x.row).getD []),x.w⟩)).map Item.d) D F]/\((z.take j).all (fun x=>(cellsOf cells x.row).isSome)=true)) (fun m tm hq bz hI=>?_) (z.length) ⟨0,.nil,[],by simp,rfl,rfl,S,(rfl)⟩;obtain⟨j,D,F,hj,e6,e7,S2,aD⟩:=hI;have k0:=bz 0 (by kernel_rfl);conv at k0=>rhs;whnf
 have k1:=bz 1 (by kernel_rfl);conv at k1=>rhs;whnf
 refine⟨[(0,_),(1,_),(6,_),(7,_)],⟨k0,k1,e6,e7,trivial⟩,?_⟩;clear bz k0 k1 e6 e7;replace S:=S2;clear S2;conv=>whnf
 have fw:j<4611686018427387904:=by simp[cM]at hl;omega
 refine ae (fun h1=>?_) (fun h1=>?_)
 ·have bq:j<z.length:=by simpa using h1
  have cx:(z.map Item.enc)[((j:Nat):Int).toNat]?=some (Item.enc z[j]):=by rw[aq];simp[bq]
  have ht:=h2 _ (ay bq);have cY:=js (fun x:Item=>(⟨((cellsOf cells x.row).getD []),x.w⟩:Item)) bq;have eM:=lz (fun x:Item=>(cellsOf cells x.row).isSome) bq;have fC:=nq (Q:=fun x:Item=>(cellsOf cells x.row).isSome) bq;have tL:=zV (z:=z.take j) (cells:=cells) (by simp;omega) KP.2;have Gq:=uU tL;have hz2:((z.take j).map fun x=>(⟨((cellsOf cells x.row).getD []),x.w⟩:Item)).length<=z.length:=by simp;omega
  have BR:((cellsOf cells z[j].row).getD []).length<=cM:=by
   have:=(zV (z:=z) (cells:=cells) hl KP.2).2 _ (List.mem_map_of_mem (ay bq));exact this
  generalize z[j]=x at cx ht cY eM fC BR;obtain⟨row,w⟩:=x;simp only at ht cY eM fC BR;rw[aD,aX]at eM;rcases VC:cellsOf cells row with _|rr
  ·rw[VC]at ht cY eM fC;have:res=none:=by rw[aN,fC rfl];rfl
   subst this;conv=>whnf
   refine⟨_,cx,by omega,rfl,?_⟩;conv=>whnf
   refine gA S ht rfl rfl fun vs q F1 S1=>?_;obtain⟨v1,F2,rfl,S2⟩:=ah.jZ S1;conv=>whnf
   exact⟨_,rfl,_,_,_,rfl,jn _⟩
  ·rw[VC]at ht cY eM fC BR;conv=>whnf
   refine⟨_,cx,by omega,rfl,?_⟩;conv=>whnf
   refine gA S ht rfl rfl fun vs q F1 S1=>?_;obtain⟨v1,F2,rfl,S2⟩:=ah.jZ S1;clear S S1;have S:=S2.swap;clear S2;conv=>whnf
   refine⟨_,cx,by omega,rfl,?_⟩;conv=>whnf
   refine kG hp _ rr w _ (by omega) Gq.2 BR S (fun h' S'=>gq.snap (S'.get 0 rfl)) fun v' h' F' S1=>?_;conv=>whnf
   exact⟨m-1,by omega,j+1,_,_,by omega,rfl,aQ j fw,by rw[cY,so];exact S1.drop 1,eM⟩
 ·have bq:j=z.length:=by
   have: ¬j<z.length:=by simpa using h1
   omega
  subst bq;rw[aS]at S aD;rw[aD,if_pos rfl]at aN;have sI:=uU (zV (z:=z) (cells:=cells) hl KP.2);conv=>whnf
  refine pC hp ⟨bw sI.1 (by simpa using hl),sI.2⟩ S (fun g=>?_) (fun g=>?_)
  ·have i4:=aN.trans (if_pos g);subst i4;conv=>whnf
   exact⟨_,rfl,_,_,_,rfl,Bl S true⟩
  ·have i4:=aN.trans (if_neg (by rw[g];simp));subst i4;conv=>whnf
   exact⟨_,rfl,_,_,_,rfl,jn _⟩
theorem nr{z:List Item}(h:c7 z=true):ot z=some z:=if_pos h
theorem ns{z:List Item}(h:c7 z=false):ot z=none:=if_neg (by rw[h];simp)
def lR(a b:List Item):Option (List Item):=if c7 a&&c7 b then ot (ct a b)else none
theorem RO{a b:List Item}(ha:c7 a=true)(hb:c7 b=true):gi (ct a b)/\(ct a b).length<=200:=by
 obtain⟨g1,g2⟩:=cE ha;obtain⟨g3,g4⟩:=cE hb;have:=fp (a:=a) (b:=b) (fun x hx=>by have:=g2 x hx;simp[cM];omega) (fun x hx=>by have:=g4 x hx;simp[cM];omega);exact⟨⟨by simp[cM];omega,this.2⟩,by omega⟩
theorem Dz(hp:bV pr)(a b:List Item)(ha:gi a)(hb:gi b):lu pr 147 [aE.enc a,aE.enc b] [aE.d (nV (lR a b)).1,.b (nV (lR a b)).2]:=by
 have h1:=gu hp a ha;have h2:=gu hp b hb;have h3:c7 a=true->c7 b=true->tE pr 56 [aE.enc a,aE.enc b] 2 ((ct a b).map Item.d):=fun g1 g2=>kH hp a b ha hb (by have:=(cE g1).1;have:=(cE g2).1;simp[cM];omega);have h4:=@RO a b;have aN:lR a b=lR a b:=rfl;conv at aN=>rhs;unfold lR
 generalize lR a b=res at aN⊢;refine fN hp rfl ?_;have S:ah [] []:=ah.nil [];conv=>whnf
 refine⟨_,h1 _,?_⟩;conv=>whnf
 refine ae (fun g1=>?_) (fun g1=>?_)
 rotate_left
 ·rw[g1]at aN;have i4:res=none:=aN;subst i4;conv=>whnf
  exact⟨_,rfl,_,_,_,rfl,jn _⟩
 conv=>whnf
 refine⟨_,h2 _,?_⟩;conv=>whnf
 refine ae (fun g2=>?_) (fun g2=>?_)
 rotate_left
 ·rw[g1,g2]at aN;have i4:res=none:=aN;subst i4;conv=>whnf
  exact⟨_,rfl,_,_,_,rfl,jn _⟩
 rw[g1,g2]at aN;conv=>whnf
 refine cI S (h3 g1 g2) rfl rfl fun v1 q1 F1 S1=>?_;conv=>whnf
 refine pC hp (h4 g1 g2).1 S1 (fun g=>?_) (fun g=>?_)
 ·have i4:=aN.trans (nr g);subst i4;conv=>whnf
  exact⟨_,rfl,_,_,_,rfl,Bl S1 true⟩
 ·have i4:=aN.trans (ns g);subst i4;conv=>whnf
  exact⟨_,rfl,_,_,_,rfl,jn _⟩
def qp(z:List Item):List Item:=(z.filter fun x=>decide (0<x.w)).map fun x=>⟨x.row,1⟩
theorem qt{α:Type}(P:α->Bool){z:List α}{j:Nat}(h:j<z.length):(z.take (j+1)).filter P=if P z[j]then(z.take j).filter P++[z[j]]else(z.take j).filter P:=by
 rw[dn h,List.filter_append];split<;>simp_all
theorem uV(z:List Item)(j:Nat):(qp (z.take j)).length<=z.length:=by
 unfold qp;rw[aO];exact bw (List.length_filter_le _ _) (by simp;omega)
theorem Gr{z:List Item}(hz:gi z):gi (qp z):=by
 refine⟨?_,fun y hy=>?_⟩
 ·have:=uV z z.length;rw[aS]at this;exact bw this hz.1
 ·obtain⟨x,hx,rfl⟩:=bj.1 hy;exact hz.2 x (List.mem_filter.1 hx).1
theorem KQ(hp:bV pr)(z:List Item)(hz:gi z):tE pr 157 [aE.enc z] 2 ((qp z).map Item.d):=by
 have hl:=hz.1;refine rJ hp rfl ?_;have S:ah [] []:=ah.nil [];conv=>whnf
 replace S:=ah.j7 2 S;refine dh (fun m tm hp=>∃(j:Nat)(D:af)(F:List Nat),j+m=z.length/\tm 3=D/\tm 4=i64 (j:Nat)/\ah hp [.iA 2 ((qp (z.take j)).map Item.d) D F]) (fun m tm hq bz hI=>?_) (z.length) ⟨0,.nil,[],by simp,rfl,rfl,S⟩;obtain⟨j,D,F,hj,e3,e4,S2⟩:=hI;have k0:=bz 0 (by kernel_rfl);conv at k0=>rhs;whnf
 refine⟨[(0,_),(3,_),(4,_)],⟨k0,e3,e4,trivial⟩,?_⟩;clear bz k0 e3 e4;replace S:=S2;clear S2;conv=>whnf
 have fw:j<4611686018427387904:=by simp[cM]at hl;omega
 refine ae (fun h1=>?_) (fun h1=>?_)
 ·have bq:j<z.length:=by simpa using h1
  have cx:(z.map Item.enc)[((j:Nat):Int).toNat]?=some (Item.enc z[j]):=by rw[aq];simp[bq]
  have cY:qp (z.take (j+1))=if decide (0<z[j].w)then qp (z.take j)++[⟨z[j].row,1⟩]else qp (z.take j):=by
   unfold qp;rw[qt _ bq];split<;>simp
  have hlen:=uV z j;have eI:=px hp z[j].row (hz.2 _ (ay bq));generalize z[j]=x at cx cY eI;obtain⟨row,w⟩:=x;simp only at cY eI;conv=>whnf
  refine⟨_,cx,by omega,rfl,?_⟩;conv=>whnf
  refine ae (fun g1=>?_) (fun g1=>?_)
  ·rw[if_pos (by simpa using g1)]at cY;conv=>whnf
   refine⟨_,cx,by omega,rfl,?_⟩;conv=>whnf
   refine ek S eI rfl rfl fun A q1 F1 o1 S1=>?_;replace S:=S1;clear S1;conv=>whnf
   refine dE o1.cell.1 ?_;conv=>whnf
   intro nM nN de dg;replace S:=S.alloc de dg;conv=>whnf
   refine⟨trivial,?_⟩;conv=>whnf
   refine⟨[_],bG (S.row 0 rfl),ef rfl (bC o1.cell.2 rfl),?_⟩;replace S:=S.drop 0;dsimp only[List.eraseIdx]at S;replace S:=(qh (w:=1) S).swap;refine jM S (by simp[br,cM]at*;omega) fun k_ h2 F2 S2=>?_;conv=>whnf
   exact⟨m-1,by omega,j+1,_,_,by omega,rfl,aQ j fw,by rw[cY,bd];exact S2⟩
  ·rw[if_neg (by simpa using g1)]at cY;conv=>whnf
   exact⟨m-1,by omega,j+1,_,_,by omega,rfl,aQ j fw,by rw[cY];exact S⟩
 ·have bq:j=z.length:=by
   have: ¬j<z.length:=by simpa using h1
   omega
  subst bq;rw[aS]at S;conv=>whnf
  exact⟨_,rfl,_,_,_,rfl,S.get 0 rfl,(S.get' 0 _ rfl).2⟩
def Cc(r:List Int):List Item->Int
 | []=>0
 |x::xs=>if eS x.row r then x.w else Cc r xs
def Jb(z:List Item)(r:List Int):Int:=if c7 z then Cc r z else 0
theorem RP(hp:bV pr)(z:List Item)(r:List Int)(hz:gi z)(hr:r.length<=cM):dm pr 167 [aE.enc z,.sl (r.map i64)] (i64 (Jb z r)):=by
 have h1:=gu hp z hz;have h2:=fun(x:Item)(hx:x∈z)=>qj hp x.row r (hz.2 x hx) hr;have hl:=hz.1;have aN:Jb z r=Jb z r:=rfl;conv at aN=>rhs;unfold Jb
 generalize Jb z r=res at aN⊢;refine xC hp rfl rfl ?_;have S:ah [] []:=ah.nil [];conv=>whnf
 refine dh (fun m tm hp=>∃(j:Nat),j+m=z.length/\tm 5=i64 (j:Nat)/\(Cc r z=Cc r (z.drop j))) (fun m tm hq bz hI=>?_) (z.length) ⟨0,by simp,rfl,(rfl)⟩;obtain⟨j,hj,e5,aD⟩:=hI;have k0:=bz 0 (by kernel_rfl);conv at k0=>rhs;whnf
 have k1:=bz 1 (by kernel_rfl);conv at k1=>rhs;whnf
 refine⟨[(0,_),(1,_),(5,_)],⟨k0,k1,e5,trivial⟩,?_⟩;clear bz k0 k1 e5;have S:ah hq []:=ah.nil hq;conv=>whnf
 have fw:j<4611686018427387904:=by simp[cM]at hl;omega
 refine ae (fun NS=>?_) (fun NS=>?_)
 ·have bq:j<z.length:=by simpa using NS
  have cx:(z.map Item.enc)[((j:Nat):Int).toNat]?=some (Item.enc z[j]):=by rw[aq];simp[bq]
  rw[ar bq]at aD;have ht:=h2 _ (ay bq);generalize z[j]=x at cx aD ht;obtain⟨row,w⟩:=x;replace aD:Cc r z=(if eS row r then w else Cc r (z.drop (j+1))):=aD;simp only at ht;conv=>whnf
  refine⟨_,h1 _,?_⟩;conv=>whnf
  refine ae (fun g1=>?_) (fun g1=>?_)
  ·rw[if_pos g1]at aN;conv=>whnf
   refine⟨_,cx,by omega,rfl,?_⟩;conv=>whnf
   refine⟨_,ht _,?_⟩;conv=>whnf
   refine ae (fun g2=>?_) (fun g2=>?_)
   ·rw[if_pos g2]at aD;conv=>whnf
    refine⟨_,cx,by omega,rfl,?_⟩;conv=>whnf
    exact dO (by rw[aN,aD])
   ·rw[if_neg (by rw[g2];simp)]at aD;conv=>whnf
    exact⟨m-1,by omega,j+1,by omega,aQ j fw,aD⟩
  ·rw[if_neg (by rw[g1];simp)]at aN;conv=>whnf
   exact dO aN.symm
 ·have bq:j=z.length:=by
   have: ¬j<z.length:=by simpa using NS
   omega
  subst bq;rw[aL]at aD;conv=>whnf
  exact dO (by rw[aN,aD];split<;>rfl)
def ZR(x:Item):Item:=⟨x.row,IntKind.i64.wrap (0-x.w)⟩
def rL(z:List Item):List Item:=z.map ZR
def nt(a b:List Item):List Item:=ct a (rL b)
theorem zW{z:List Item}(hz:gi z):gi (rL z):=⟨by simpa[rL]using hz.1,fun y hy=>by obtain⟨x,hx,rfl⟩:=bj.1 hy;exact hz.2 x hx⟩
theorem Mr(z:List Item)(j:Nat):rL (z.take j)=(rL z).take j:=by simp[rL,List.map_take]
theorem Cd(hp:bV pr)(a b:List Item)(ha:gi a)(hb:gi b)(hl:a.length+b.length<=cM):tE pr 156 [aE.enc a,aE.enc b] 2 ((nt a b).map Item.d):=by
 have h1:=kF hp a ha;refine rJ hp rfl ?_;have S:ah [] []:=ah.nil [];conv=>whnf
 refine cI S h1 rfl rfl fun v1 q1 F1 S1=>?_;replace S:=S1;clear S1;conv=>whnf
 refine dh (fun m tm hp=>∃(j:Nat)(D:af)(F:List Nat),j+m=b.length/\tm 5=D/\tm 6=i64 (j:Nat)/\ah hp [.iA 2 ((nt a (b.take j)).map Item.d) D F]) (fun m tm hq bz hI=>?_) (b.length) ⟨0,v1,F1,by simp,rfl,rfl,S⟩;obtain⟨j,D,F,hj,e5,e6,S2⟩:=hI;have k1:=bz 1 (by kernel_rfl);conv at k1=>rhs;whnf
 refine⟨[(1,_),(5,_),(6,_)],⟨k1,e5,e6,trivial⟩,?_⟩;clear bz k1 e5 e6;replace S:=S2;clear S2;conv=>whnf
 have fw:j<4611686018427387904:=by simp[cM]at hl;omega
 refine ae (fun h1=>?_) (fun h1=>?_)
 ·have bq:j<b.length:=by simpa using h1
  have cx:(b.map Item.enc)[((j:Nat):Int).toNat]?=some (Item.enc b[j]):=by rw[aq];simp[bq]
  have sI:=fp (a:=a) (b:=rL (b.take j)) ha.2 (by rw[Mr];exact fun x hx=>(zW hb).2 x (List.mem_of_mem_take hx))
  have cY:nt a (b.take (j+1))=fT (nt a (b.take j)) b[j].row (IntKind.i64.wrap (0-b[j].w)):=by
   rw[nt,dn bq,rL,bd];exact so _ _ _
  have Kq:(rL (b.take j)).length<=b.length:=by simp[rL];omega
  have dT:=hb.2 _ (ay bq);generalize b[j]=x at cx cY dT;obtain⟨row,w⟩:=x;conv=>whnf
  refine⟨_,cx,by omega,rfl,?_⟩;conv=>whnf
  refine⟨_,cx,by omega,rfl,?_⟩;conv=>whnf
  refine kG hp _ row (IntKind.i64.wrap (0-w)) _ (by have:=sI.1;omega) sI.2 dT S (fun h' _=>wz h' row) fun v' h' F' S1=>?_;conv=>whnf
  exact⟨m-1,by omega,j+1,_,_,by omega,rfl,aQ j fw,by rw[cY];exact S1⟩
 ·have bq:j=b.length:=by
   have: ¬j<b.length:=by simpa using h1
   omega
  subst bq;rw[aS]at S;conv=>whnf
  exact⟨_,rfl,_,_,_,rfl,S.get 0 rfl,(S.get' 0 _ rfl).2⟩
def il(z d:List Item):Option (List Item):=match lR z d with
 |some now=>ot (nt (qp now) (qp z))
 |none=>none
theorem DA(hp:bV pr)(z d:List Item)(hz:gi z)(hd:gi d):lu pr 148 [aE.enc z,aE.enc d] [aE.d (nV (il z d)).1,.b (nV (il z d)).2]:=by
 have h1:=Dz hp z d hz hd;have h2:=KQ hp z hz
 have Yb: ∀now,lR z d=some now->c7 z=true/\c7 now=true:=fun now h=>by
  unfold lR at h;split at h
  ·rename_i g;simp only[aj]at g;unfold ot at h;split at h
   ·cases h;exact⟨g.1,by assumption⟩
   ·cases h
  ·cases h
 have aN:il z d=il z d:=rfl;conv at aN=>rhs;unfold il
 generalize il z d=res at aN⊢;rcases hx:lR z d with _|now
 ·rw[hx]at h1 aN;subst aN;refine fN hp rfl ?_;have S:ah [] []:=ah.nil [];conv=>whnf
  refine gA S h1 rfl rfl fun vs q F1 S1=>?_;obtain⟨v1,F2,rfl,S2⟩:=ah.jZ S1;conv=>whnf
  exact⟨_,rfl,_,_,_,rfl,jn _⟩
 ·obtain⟨g1,g2⟩:=Yb now hx;rw[hx]at h1 aN;have Px:=cF g2;have h3:=KQ hp now Px;have Ew:=Gr hz;have HB:=Gr Px;have HD:=uV z z.length;have CI:=uV now now.length;rw[aS]at HD CI;have X7:=(cE g1).1;have hl4:=(cE g2).1;have h4:=Cd hp (qp now) (qp z) HB Ew (by simp[cM];omega);have h5:=fp (a:=qp now) (b:=rL (qp z)) HB.2 (zW Ew).2;have h6:(rL (qp z)).length<=100:=by simp[rL];omega
  have h7:gi (nt (qp now) (qp z)):=⟨by have:=h5.1;unfold nt;simp[cM];omega,h5.2⟩;refine fN hp rfl ?_;have S:ah [] []:=ah.nil [];conv=>whnf
  refine gA S h1 rfl rfl fun vs q F1 S1=>?_;obtain⟨v1,F2,rfl,S2⟩:=ah.jZ S1;conv=>whnf
  refine cI S2 h3 rfl (oR (aE.fU (S2.get 0 rfl))) fun v2 q2 F3 S3=>?_;conv=>whnf
  refine cI S3 h2 rfl rfl fun v3 q3 F4 S4=>?_;conv=>whnf
  refine cI S4 h4 rfl (jI (aE.fU ((ah.dv (S4.drop 0)).get 0 rfl)) (pB S4)) fun v4 q4 F5 S5=>?_;conv=>whnf
  refine pC hp h7 S5 (fun g=>?_) (fun g=>?_)
  ·have i4:=aN.trans (nr g);subst i4;conv=>whnf
   exact⟨_,rfl,_,_,_,rfl,Bl S5 true⟩
  ·have i4:=aN.trans (ns g);subst i4;conv=>whnf
   exact⟨_,rfl,_,_,_,rfl,jn _⟩
theorem ah.Py{h:aC}{L:List Chunk}{xs:List Int}{v:af}{F:List Nat}(S:ah h (.iA 1 (xs.map ba.i) v F::L)):ah h (.acc i64 1 xs v::L):=by
 have h0:qS 1 h (xs.map ba.i) v F:=S.get 0 rfl;obtain⟨h1,h2⟩:=h0;have h3:=IN.2 h1;rcases h3 with⟨rfl,rfl,hv⟩|⟨id,rfl,h4,rfl⟩
 ·have hv:v= .nil:=by
   rcases h2 with h|⟨id,h⟩
   ·exact h
   ·rcases hv with hv|hv<;>(rw[hv]at h;cases h)
  subst hv;exact S.is (c':=.acc i64 1 [] .nil) (.inl ⟨rfl,rfl⟩) rfl
 ·exact S.is (c':=.acc i64 1 xs (.own id 0 xs.length)) (.inr ⟨id,rfl,h4⟩) rfl
theorem ah.DB{h:aC}{L:List Chunk}{xs:List Int}{v:af}(S:ah h (.acc i64 1 xs v::L)):ah h (.iA 1 (xs.map ba.i) v (nT v)::L):=by
 have h0:m8 i64 1 h xs v:=S.get 0 rfl;have S1:=ah.jc S;refine S1.is (c':=.iA 1 (xs.map ba.i) v (nT v)) ⟨S1.get 0 rfl,?_⟩ rfl;rcases h0 with⟨_,rfl⟩|⟨id,rfl,_⟩
 ·exact .inl rfl
 ·exact .inr ⟨id,by rw[aO]⟩
theorem Pz(hp:bV pr)(xs:List Int)(hl:xs.length<=cM):tE pr 93 [.sl (xs.map i64)] 1 (xs.map ba.i):=by
 refine rJ hp rfl ?_;have S:ah [] []:=ah.nil [];conv=>whnf
 refine⟨trivial,?_⟩;conv=>whnf
 refine⟨_,rfl,I3 xs,?_⟩;refine jA (ys:=xs) (ah.ma i64 1 S) (by simp[br,cM]at*;omega) fun D1 w1 Ec S1=>?_;conv=>whnf
 exact⟨_,rfl,_,_,_,rfl,(ah.DB S1).get 0 rfl,((ah.DB S1).get' 0 _ rfl).2⟩
theorem Jc(hp:bV pr)(a b:List Int)(ha:a.length<=1000)(hb:b.length<=1000):kC pr 163 [.sl (a.map i64),.sl (b.map i64)] (gq.d (a++b)):=by
 have h1:=Pz hp a (by simp[cM];omega);refine lQ hp rfl ?_;have S:ah [] []:=ah.nil [];conv=>whnf
 refine cI S h1 rfl rfl fun A q1 F1 S1=>?_;conv=>whnf
 refine⟨trivial,?_⟩;conv=>whnf
 refine⟨_,rfl,I3 b,?_⟩;refine jA (ys:=b) (ah.Py S1) (by simp[br];omega) fun D1 w1 Ec S2=>?_;conv=>whnf
 exact⟨_,rfl,_,_,_,rfl,(ah.jc S2).get 0 rfl,((ah.jc S2).get' 0 _ rfl).2⟩
def RQ(a b:Int):Int:=IntKind.i64.wrap (a*b)
def yz(p q:Item):Item:=⟨p.row++q.row,RQ p.w q.w⟩
def iq(p:Item)(b:List Item)(x y:Int):List Item:=(b.filter fun q=>A3 p.row x==A3 q.row y).map (yz p)
def iG(a b:List Item)(x y:Int):List Item:=a.flatMap fun p=>iq p b x y
def kI(a b:List Item)(x y:Int):Bool:=a.all fun p=>b.all fun q=>decide (x<p.row.length)&&decide (y<q.row.length)
theorem xE(p:Item)(b:List Item)(x y:Int):(iq p b x y).length<=b.length:=by
 unfold iq;rw[aO];exact List.length_filter_le _ _
theorem Ce(a b:List Item)(x y:Int):(iG a b x y).length<=a.length*b.length:=by
 induction a with
 |nil=>simp[iG]
 |cons p a ih=>
  have:=xE p b x y;simp only[iG,List.flatMap_cons,List.length_append,aJ]at ih⊢;rw[Nat.succ_mul];omega
theorem Jd(a:List Item)(p:Item)(b:List Item)(x y:Int):iG (a++[p]) b x y=iG a b x y++iq p b x y:=by simp[iG]
theorem uW{p:Item}{b:List Item}{x y:Int}(hp:p.row.length<=6)(hb: ∀q∈b,q.row.length<=6): ∀z∈iq p b x y,z.row.length<=12:=fun z hz=>by
 obtain⟨q,hq,rfl⟩:=bj.1 hz;have:=hb q (List.mem_filter.1 hq).1;simp only[yz,List.length_append];omega
theorem zX{a b:List Item}{x y:Int}(ha: ∀p∈a,p.row.length<=6)(hb: ∀q∈b,q.row.length<=6): ∀z∈iG a b x y,z.row.length<=12:=fun z hz=>by
 obtain⟨p,hp,hz⟩:=List.mem_flatMap.1 hz;exact uW (ha p hp) hb z hz
theorem Ms{a b:List Item}(ha:c7 a=true)(hb:c7 b=true)(x y:Int){i k:Nat}(hi:i<a.length):gi (iG (a.take i) b x y++iq a[i] (b.take k) x y)/\(iG (a.take i) b x y++iq a[i] (b.take k) x y).length<=10100:=by
 obtain⟨g1,g2⟩:=cE ha;obtain⟨g3,g4⟩:=cE hb;have h1:=Ce (a.take i) b x y;have h2:=xE a[i] (b.take k) x y;have h3:(a.take i).length*b.length<=100*100:=Nat.mul_le_mul (by simp;omega) g3;have h4:(b.take k).length<=100:=by simp;omega
 have h5:(iG (a.take i) b x y++iq a[i] (b.take k) x y).length<=10100:=by rw[List.length_append];omega
 refine⟨⟨by simp[cM];simp at h5;omega,fun z hz=>?_⟩,h5⟩
 have:z.row.length<=12:=by
  rcases bu.1 hz with hz|hz
  ·exact zX (fun p hp=>g2 p (List.mem_of_mem_take hp)) g4 z hz
  ·exact uW (g2 _ (ay hi)) (fun q hq=>g4 q (List.mem_of_mem_take hq)) z hz
 simp[cM];omega
theorem zY(hp:bV pr)(a b:List Item)(x y:Int)(ha:c7 a=true)(hb:c7 b=true)(hx:0<=x)(hy:0<=y):
  ∃z,(kI a b x y=true->z=ct [] (iG a b x y))/\lu pr 155 [aE.enc a,aE.enc b,i64 x,i64 y] [aE.d z,.b (kI a b x y)]:=by
   obtain⟨g1,g2⟩:=cE ha;obtain⟨g3,g4⟩:=cE hb;have Nw:=fun(p q:Item)(h1:p∈a)(h2:q∈b)=>Jc hp p.row q.row (by have:=g2 p h1;omega) (by have:=g4 q h2;omega);have aN:kI a b x y=kI a b x y:=rfl;conv at aN=>rhs;unfold kI
   suffices hw:wv (du pr) 155 [aE.enc a,aE.enc b,i64 x,i64 y] [] (fun r=>∃z vs h F,(kI a b x y=true->z=ct [] (iG a b x y))/\r= .ret (.dX vs) h/\bZ h [aE.d z,.b (kI a b x y)] vs F/\F.Nodup) by
    obtain⟨r,hr,z,vs,h,F,h0,rfl,h1,h2⟩:=cS (hp.out _ rfl) hw;exact⟨z,h0,vs,h,F,hr,h1,h2⟩
   generalize kI a b x y=ok at aN⊢;have S:ah [] []:=ah.nil [];conv=>whnf
   replace S:=ah.j7 2 S;refine dh (fun m tm hp=>∃(j:Nat)(D:af)(F:List Nat),j+m=a.length/\tm 10=D/\tm 11=i64 (j:Nat)/\ah hp [.iA 2 ((ct [] (iG (a.take j) b x y)).map Item.d) D F]/\((a.take j).all (fun p=>b.all fun q=>decide (x<p.row.length)&&decide (y<q.row.length))=true)) (fun mi Te hq bz hI=>?_) (a.length) ⟨0,.nil,[],by simp,rfl,rfl,S,(rfl)⟩;obtain⟨i,D,F,hi,qX,IQ,S2,aD⟩:=hI;have k0:=bz 0 (by kernel_rfl);conv at k0=>rhs;whnf
   have k1:=bz 1 (by kernel_rfl);conv at k1=>rhs;whnf
   have k2:=bz 2 (by kernel_rfl);conv at k2=>rhs;whnf
   have k3:=bz 3 (by kernel_rfl);conv at k3=>rhs;whnf
   refine⟨[(0,_),(1,_),(2,_),(3,_),(10,_),(11,_)],⟨k0,k1,k2,k3,qX,IQ,trivial⟩,?_⟩;clear bz k0 k1 k2 k3 qX IQ;replace S:=S2;clear S2;conv=>whnf
   have vQ:i<4611686018427387904:=by omega
   refine ae (fun h1=>?_) (fun h1=>?_)
   ·have mg:i<a.length:=by simpa using h1
    have W3:(a.map Item.enc)[((i:Nat):Int).toNat]?=some (Item.enc a[i]):=by rw[aq];simp[mg]
    have cY:=Jd (a.take i) a[i] b x y;rw[<-dn mg]at cY;have eM:=lz (fun p:Item=>b.all fun q=>decide (x<p.row.length)&&decide (y<q.row.length)) mg;have fC:=nq (Q:=fun p:Item=>b.all fun q=>decide (x<p.row.length)&&decide (y<q.row.length)) mg;have uX:=fun k=>Ms ha hb x y (k:=k) mg;have hjr:=fun q=>Nw a[i] q (ay mg);have SZ:=g2 _ (ay mg);generalize a[i]=p at W3 cY eM fC uX hjr SZ;obtain⟨row,w⟩:=p;rw[aD,aX]at eM;simp only at eM fC SZ;conv=>whnf
    have S':ah hq [.iA 2 ((ct [] (iG (a.take i) b x y++iq ⟨row,w⟩ (b.take 0) x y)).map Item.d) D F]:=by simpa[iq]using S
    replace S:=S';clear S';refine dh (fun m tm hp=>∃(j:Nat)(D:af)(F:List Nat),j+m=b.length/\tm 10=D/\tm 12=i64 (j:Nat)/\ah hp [.iA 2 ((ct [] (iG (a.take i) b x y++iq ⟨row,w⟩ (b.take j) x y)).map Item.d) D F]/\((b.take j).all (fun q=>decide (x<row.length)&&decide (y<q.row.length))=true)) (fun m tm hq bz hI=>?_) (b.length) ⟨0,D,F,by simp,rfl,rfl,S,(rfl)⟩;obtain⟨j,D,F,hj,qX,qN,S2,c8⟩:=hI;have k0:=bz 0 (by kernel_rfl);conv at k0=>rhs;whnf
    have k1:=bz 1 (by kernel_rfl);conv at k1=>rhs;whnf
    have k2:=bz 2 (by kernel_rfl);conv at k2=>rhs;whnf
    have k3:=bz 3 (by kernel_rfl);conv at k3=>rhs;whnf
    have qi:=bz 11 (by kernel_rfl);conv at qi=>rhs;whnf
    refine⟨[(0,_),(1,_),(2,_),(3,_),(11,_),(10,_),(12,_)],⟨k0,k1,k2,k3,qi,qX,qN,trivial⟩,?_⟩;clear bz k0 k1 k2 k3 qi qX qN;replace S:=S2;clear S2;conv=>whnf
    have fw:j<4611686018427387904:=by omega
    refine ae (fun h2=>?_) (fun h2=>?_)
    ·have bq:j<b.length:=by simpa using h2
     have cx:(b.map Item.enc)[((j:Nat):Int).toNat]?=some (Item.enc b[j]):=by rw[aq];simp[bq]
     have PA:=lz (fun q:Item=>decide (x<row.length)&&decide (y<q.row.length)) bq;have PB:=nq (Q:=fun q:Item=>decide (x<row.length)&&decide (y<q.row.length)) bq
     have Mt:iq ⟨row,w⟩ (b.take (j+1)) x y=if A3 row x==A3 b[j].row y then iq ⟨row,w⟩ (b.take j) x y++[yz ⟨row,w⟩ b[j]]else iq ⟨row,w⟩ (b.take j) x y:=by
      unfold iq;rw[qt _ bq];split<;>simp
     have sI:=uU (uX j).1;have Bd:=(uX j).2;have Us:=hjr b[j] (ay bq);have hqr:=g4 _ (ay bq);generalize b[j]=q at cx PA PB Mt Us hqr;obtain⟨FJ,w2⟩:=q;rw[c8,aX]at PA;simp only at PA PB Mt Us hqr;have Tf:(decide (x<row.length)&&decide (y<FJ.length))=false->ok=false:=fun h=>by rw[aN];exact fC (PB h)
     conv=>whnf
     refine⟨_,W3,by omega,rfl,?_⟩;conv=>whnf
     rw[aO];refine ae (fun h3=>?_) (fun h3=>?_)
     ·have:=Tf (by simp at h3;simp;omega);subst this;conv=>whnf
      exact⟨_,rfl,_,_,_,_,by simp,rfl,Bl S false⟩
     ·have Bc:x<row.length:=by simpa using h3
      have ha0:=qm hx Bc;conv=>whnf
      refine⟨_,cx,by omega,rfl,?_⟩;conv=>whnf
      rw[aO];refine ae (fun h4=>?_) (fun h4=>?_)
      ·have:=Tf (by simp at h4;simp;omega);subst this;conv=>whnf
       exact⟨_,rfl,_,_,_,_,by simp,rfl,Bl S false⟩
      ·have Wv:y<FJ.length:=by simpa using h4
       have SE:=qm hy Wv;have Oo:(decide (x<row.length)&&decide (y<FJ.length))=true:=by simp[Bc,Wv]
       conv=>whnf
       refine⟨_,W3,by omega,rfl,?_⟩;conv=>whnf
       refine⟨_,ha0,hx,rfl,?_⟩;conv=>whnf
       refine⟨_,cx,by omega,rfl,?_⟩;conv=>whnf
       refine⟨_,SE,hy,rfl,?_⟩;conv=>whnf
       refine ae (fun h5=>?_) (fun h5=>?_)
       ·rw[if_pos h5]at Mt;conv=>whnf
        refine⟨_,W3,by omega,rfl,?_⟩;conv=>whnf
        refine⟨_,cx,by omega,rfl,?_⟩;conv=>whnf
        refine ek S Us rfl rfl fun A q1 F1 o1 S1=>?_;clear S;have S:=S1.swap;clear S1 o1;conv=>whnf
        refine⟨_,W3,by omega,rfl,?_⟩;conv=>whnf
        refine⟨_,cx,by omega,rfl,?_⟩;conv=>whnf
        refine kG hp _ (row++FJ) (RQ w w2) _ (by have:=sI.1;simp[cM];omega) sI.2 (by simp[cM];omega) S (fun h' S'=>gq.snap (S'.get 0 rfl)) fun v' h' F' S1=>?_;conv=>whnf
        exact⟨m-1,by omega,j+1,_,_,by omega,rfl,aQ j fw,by rw[Mt,<-List.append_assoc,so];exact S1.drop 1,by rw[PA];exact Oo⟩
       ·rw[if_neg (by rw[h5];simp)]at Mt;conv=>whnf
        exact⟨m-1,by omega,j+1,_,_,by omega,rfl,aQ j fw,by rw[Mt];exact S,by rw[PA];exact Oo⟩
    ·have bq:j=b.length:=by
      have: ¬j<b.length:=by simpa using h2
      omega
     subst bq;rw[aS]at S c8;conv=>whnf
     exact⟨mi-1,by omega,i+1,_,_,by omega,rfl,aQ i vQ,by rw[cY];exact S,by rw[eM];exact c8⟩
   ·have mg:i=a.length:=by
     have: ¬i<a.length:=by simpa using h1
     omega
    subst mg;rw[aS]at S aD;rw[aD]at aN;subst aN;conv=>whnf
    exact⟨_,rfl,_,_,_,_,fun _=>rfl,rfl,Bl S true⟩
theorem wA{a b:List Item}(ha:c7 a=true)(hb:c7 b=true)(x y:Int):gi (ct [] (iG a b x y))/\(ct [] (iG a b x y)).length<=10000:=by
 obtain⟨g1,g2⟩:=cE ha;obtain⟨g3,g4⟩:=cE hb;have h1:=Ce a b x y;have h3:a.length*b.length<=100*100:=Nat.mul_le_mul g1 g3;have h4:gi (iG a b x y):=⟨by simp[cM];omega,fun z hz=>by have:=zX g2 g4 z hz;simp[cM];omega⟩;have h5:=uU h4;exact⟨⟨by simp[cM];omega,h5.2⟩,by omega⟩
def ir(a da b db:List Item)(x y:Int):Option (List Item):=
 if c7 a&&(c7 da&&(c7 b&&(c7 db&&(col x 6&&(col y 6&&(kI da b x y&&(kI a db x y&&kI da db x y)))))))then
  ot (ct (ct (ct [] (iG da b x y)) (ct [] (iG a db x y))) (ct [] (iG da db x y)))
 else none
theorem DC(hp:bV pr)(a da b db:List Item)(x y:Int)(ha:gi a)(Yc:gi da)(hb:gi b)(Yd:gi db):
  lu pr 146 [aE.enc a,aE.enc da,aE.enc b,aE.enc db,i64 x,i64 y] [aE.d (nV (ir a da b db x y)).1,.b (nV (ir a da b db x y)).2]:=by
   have h1:=gu hp a ha;have h2:=gu hp da Yc;have h3:=gu hp b hb;have h4:=gu hp db Yd;have h5:=jz hp x 6;have h6:=jz hp y 6;have aN:ir a da b db x y=ir a da b db x y:=rfl;conv at aN=>rhs;unfold ir
   generalize ir a da b db x y=res at aN⊢;refine fN hp rfl ?_;have S:ah [] []:=ah.nil [];conv=>whnf
   refine⟨_,h1 _,?_⟩;conv=>whnf
   refine ae (fun g1=>?_) (fun g1=>?_)
   rotate_left
   ·have i4:res=none:=by rw[aN,if_neg];simp[g1]
    subst i4;conv=>whnf
    exact⟨_,rfl,_,_,_,rfl,jn _⟩
   conv=>whnf
   refine⟨_,h2 _,?_⟩;conv=>whnf
   refine ae (fun g2=>?_) (fun g2=>?_)
   rotate_left
   ·have i4:res=none:=by rw[aN,if_neg];simp[g2]
    subst i4;conv=>whnf
    exact⟨_,rfl,_,_,_,rfl,jn _⟩
   conv=>whnf
   refine⟨_,h3 _,?_⟩;conv=>whnf
   refine ae (fun g3=>?_) (fun g3=>?_)
   rotate_left
   ·have i4:res=none:=by rw[aN,if_neg];simp[g3]
    subst i4;conv=>whnf
    exact⟨_,rfl,_,_,_,rfl,jn _⟩
   conv=>whnf
   refine⟨_,h4 _,?_⟩;conv=>whnf
   refine ae (fun g4=>?_) (fun g4=>?_)
   rotate_left
   ·have i4:res=none:=by rw[aN,if_neg];simp[g4]
    subst i4;conv=>whnf
    exact⟨_,rfl,_,_,_,rfl,jn _⟩
   conv=>whnf
   refine⟨_,h5 _,?_⟩;conv=>whnf
   refine ae (fun g5=>?_) (fun g5=>?_)
   rotate_left
   ·have i4:res=none:=by rw[aN,if_neg];simp[g5]
    subst i4;conv=>whnf
    exact⟨_,rfl,_,_,_,rfl,jn _⟩
   conv=>whnf
   refine⟨_,h6 _,?_⟩;conv=>whnf
   refine ae (fun g6=>?_) (fun g6=>?_)
   rotate_left
   ·have i4:res=none:=by rw[aN,if_neg];simp[g6]
    subst i4;conv=>whnf
    exact⟨_,rfl,_,_,_,rfl,jn _⟩
   conv=>whnf
   clear h1 h2 h3 h4 h5 h6;rw[g1,g2,g3,g4,g5,g6]at aN;simp only[aX]at aN;have hx:0<=x:=by simp[col]at g5;omega
   have hy:0<=y:=by simp[col]at g6;omega
   obtain⟨z1,e1,c1⟩:=zY hp da b x y g2 g3 hx hy;obtain⟨z2,e2,c2⟩:=zY hp a db x y g1 g4 hx hy;obtain⟨z3,e3,c3⟩:=zY hp da db x y g2 g4 hx hy;obtain⟨s1,l1⟩:=wA g2 g3 x y;obtain⟨s2,l2⟩:=wA g1 g4 x y;obtain⟨s3,l3⟩:=wA g2 g4 x y;generalize kI da b x y=o1 at aN e1 c1;generalize kI a db x y=o2 at aN e2 c2;generalize kI da db x y=o3 at aN e3 c3;generalize ct [] (iG da b x y)=w1 at aN e1 s1 l1;generalize ct [] (iG a db x y)=w2 at aN e2 s2 l2;generalize ct [] (iG da db x y)=w3 at aN e3 s3 l3;have f1:=fp (a:=w1) (b:=w2) s1.2 s2.2;have s4:gi (ct w1 w2):=⟨by simp[cM];omega,f1.2⟩;have f2:=fp (a:=ct w1 w2) (b:=w3) s4.2 s3.2;have s5:gi (ct (ct w1 w2) w3):=⟨by simp[cM];omega,f2.2⟩;have d1:=kH hp w1 w2 s1 s2 (by simp[cM];omega);have d2:=kH hp (ct w1 w2) w3 s4 s3 (by simp[cM];omega);clear f1 f2 l1 l2 l3;cases o1<;>cases o2<;>cases o3
   all_goals
    refine gA S c1 rfl rfl fun vs q1 F1 S1=>?_;obtain⟨v1,F2,rfl,S2⟩:=ah.jZ S1;conv=>whnf
    refine gA S2 c2 rfl rfl fun vs q2 F3 S3=>?_;obtain⟨v2,F4,rfl,S4⟩:=ah.jZ S3;conv=>whnf
    refine gA S4 c3 rfl rfl fun vs q3 F5 S5=>?_;obtain⟨v3,F6,rfl,S6⟩:=ah.jZ S5;conv=>whnf
    try(first|(have i4:res=none:=aN
               subst i4;exact⟨_,rfl,_,_,_,rfl,jn _⟩))
   rw[e1 rfl]at S6;rw[e2 rfl]at S6;rw[e3 rfl]at S6;refine cI S6 d1 rfl (jI (aE.fU (S6.get 2 rfl)) (aE.fU (S6.get 1 rfl))) fun v4 q4 F7 S7=>?_;conv=>whnf
   refine cI S7 d2 rfl (jI (pB S7) (aE.fU (S7.get 1 rfl))) fun v5 q5 F8 S8=>?_;conv=>whnf
   refine pC hp s5 S8 (fun g=>?_) (fun g=>?_)
   ·have i4:=aN.trans (nr g);subst i4;conv=>whnf
    exact⟨_,rfl,_,_,_,rfl,Bl S8 true⟩
   ·have i4:=aN.trans (ns g);subst i4;conv=>whnf
    exact⟨_,rfl,_,_,_,rfl,jn _⟩
end Go.Proofs.YtfepbikckfehlaaGreat

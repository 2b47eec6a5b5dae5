/- The law's data are equal to themselves. (Printed by gensz.py.) -/
import Derived.Test.YtfepbikckfehlaaGreatGH25
import Derived.Test.YtfepbikckfehlaaGreatGH22
import Derived.Test.YtfepbikckfehlaaGreatGH23
set_option linter.unusedVariables false
set_option linter.unusedSimpArgs false
set_option maxHeartbeats 4000000
namespace Go.Proofs.YtfepbikckfehlaaGreat
open Go Go.Am
variable{pr:bW}(hp:cF pr)
set_option maxRecDepth 100000
theorem Oe(hp:cF pr)(z:List Item)(r:List Int)(w:Int)(rv:af)(hl:z.length<=dB)(hz: ∀x∈z,x.row.length<=dB)(hr:r.length<=dB){id:Nat}{vs:List af}{F:List Nat}{h:aG}{L:List Chunk}
  (S0:aj h (.row id (.arr 2 vs):: .ed (z.map Item.d) vs F::L)) (Ma: ∀h',aj h' L->Am.snap h' rv=some (.sl (r.map i64))) {K:ef->Prop}
  (hK: ∀v' h' F',aj h' (.jA 2 ((hY z r w).map Item.d) v' F'::L)->K (.ret v' h')):Hm (dZ pr) 87 [.own id 0 z.length,rv,i64 w] h K:=by
   have CI:vs.length=z.length:=by have:=iw (S0.get 1 rfl);simpa using this
   have xn:Am.snap h rv=some (.sl (r.map i64)):=Ma h ((S0.drop 0).drop 0);conv=>whnf
   refine iv (fun m tm hp=>∃(j:Nat)(A:List Item)(B:List Item),j+m=z.length/\tm 7=i64 (j:Nat)/\(hp=h)/\(z=A++B/\A.length=j/\ ∀x∈A,fl x.row r=true)) (fun m tm hq bG hI=>?_) (z.length) ⟨0,[],z,by simp,(by first|rfl|kernel_rfl|simp),(rfl),(⟨rfl,rfl,by simp⟩)⟩;obtain⟨j,A,B,hj,e7,hh,hAB⟩:=hI;have k0:=bG 0 (by kernel_rfl);conv at k0=>rhs;whnf
   rw[<-aR k0];have k1:=bG 1 (by kernel_rfl);conv at k1=>rhs;whnf
   rw[<-aR k1];have k2:=bG 2 (by kernel_rfl);conv at k2=>rhs;whnf
   rw[<-aR k2];rw[<-aR e7];clear bG k0 k1 k2 e7;have S:aj hq []:=aj.nil hq;conv=>whnf
   subst hh;obtain⟨rfl,ZU,hA⟩:=hAB;clear S;have S:=S0;clear S0;rw[abv]at hj;have gA:j<4611686018427387904:=by simp[dB]at hl;omega
   cases B with
   |nil=>
    rw[aaw]at*;simp only[abj]at hj;subst ZU
    have It:hY A r w=if w==0 then A else A++[⟨r,w⟩]:=by
     have:=DL (B:=[]) (w:=w) hA;rw[aaw]at this;rw[this];unfold hY;split<;>simp
    rw[It]at hK;conv=>whnf
    refine bm (by simp) ?_;conv=>whnf
    refine bm (by simp) ?_;conv=>whnf
    refine ae (fun g1=>?_) (fun g1=>?_)
    ·rw[if_pos g1]at hK;conv=>whnf
     exact⟨_,rfl,hK _ _ _ (aj.jX S (by simp))⟩
    ·rw[if_neg (by rw[g1];simp)]at hK;have h3:=qL hp r hr;have abB:A.length+1<=bB:=by simp only[bB,dB]at*;omega
     conv=>whnf
     refine⟨_,S.row 0 rfl,⟨by simp,by simp,by simp⟩,?_⟩;conv=>whnf
     refine⟨trivial,?_⟩;conv=>whnf
     refine⟨[],tT (S.row 0 rfl) (by simp;omega) (by simp),rfl,?_⟩;refine .inl ⟨rfl,?_⟩;conv=>whnf
     refine⟨_,S.row 0 rfl,⟨by simp,by simp,by simp⟩,?_⟩;conv=>whnf
     refine fp S h3 rfl (rG (Ma _ ((S.drop 0).drop 0))) fun Q q3 F3 o3 S3=>?_;clear S;have S:=S3;clear S3;conv=>whnf
     refine ep o3.cell.1 ?_;conv=>whnf
     intro pI pJ dT dU;replace S:=S.alloc dT dU;conv=>whnf
     refine⟨trivial,?_⟩;conv=>whnf
     refine⟨[_],bT (S.row 0 rfl),fi rfl (bM o3.cell.2 rfl),?_⟩;replace S:=S.drop 0;dsimp only[List.eraseIdx]at S;replace S:=S.q1;refine ng S (by simp;omega) (by simp;omega) fun k4 c4 S4=>?_;clear S;rw[abt (by simp;omega)]at S4;have S:aj c4 (.row k4 (.arr 2 (vs++[af.agg [Q,i64 w]]))::_):=S4;clear S4;conv=>whnf
     refine⟨trivial,?_⟩;conv=>whnf
     refine⟨[],rfl,rfl,?_⟩;refine ng S (by simp;omega) (by simp;omega) fun k5 c5 S5=>?_;clear S;rw[abt (by simp;omega),aaw]at S5;have S6:=S5.front 1 rfl;dsimp only[List.eraseIdx]at S6;have S7:=(rH (w:=w) S6).front 2 rfl;dsimp only[List.eraseIdx]at S7;have S8:=(aj.snoc S7.swap).swap;conv=>whnf
     exact⟨_,rfl,hK _ _ _ (by rw[aaD];exact aj.jX S8 (by simp))⟩
   |cons b B=>
    simp only[aak]at hj;obtain⟨VA,P,VB,F0,G,F2,rfl,YV,S1⟩:=aj.Wm S.swap;replace S1:=(S1.front 3 rfl);dsimp only[List.eraseIdx]at S1;have hP:cq hq (iR.d b.row) P G:=S1.get 2 rfl;have hbr:=hz b (by simp);have KU:0+((j:Nat):Int).toNat=VA.length:=by rw[YV,ZU];simp
    have h1:=(Bj hp b.row r hbr hr).here (args:=[P,rv]) (lj (iR.snap hP) xn) rfl rfl;have h2:=(pe hp b.row r hbr hr).here (args:=[P,rv]) (lj (iR.snap hP) xn) rfl rfl;have hlen:(A++b::B).length=j+(B.length+1):=by simp[ZU]
    have abB:j+(B.length+1)+1<=bB:=by rw[<-hlen];simp only[bB,dB]at*;omega
    have It:fl b.row r=false->hY (A++b::B) r w=if fL b.row r then(if lK b.w w==0 then A++B else A++⟨b.row,lK b.w w⟩::B)else if w==0 then A++b::B else A++⟨r,w⟩::b::B:=fun hb=>by
     rw[DL hA];unfold hY;rw[if_neg (by rw[hb];simp)]
     repeat' split
     all_goals rfl
    conv=>whnf
    refine fS (by simp;omega) ?_;conv=>whnf
    refine⟨_,S.row 0 rfl,⟨by omega,by omega⟩,?_⟩;conv=>whnf
    refine .inr ⟨_,_,_,S.row 0 rfl,Be KU,?_⟩;conv=>whnf
    refine⟨_,h1,?_⟩;conv=>whnf
    refine ae (fun g1=>?_) (fun g1=>?_)
    ·conv=>whnf
     exact⟨m-1,by omega,j+1,A++[b],B,by omega,aP j gA,rfl,by simp,by simp[ZU],fun x hx=>by
      rcases aaS.1 hx with hx|hx
      ·exact hA x hx
      ·simp at hx;subst hx;exact g1⟩
    ·rw[It g1]at hK;clear It S;have S:=S1;clear S1;conv=>whnf
     refine fS (by simp;omega) ?_;conv=>whnf
     refine⟨_,S.row 0 rfl,⟨by omega,by omega⟩,?_⟩;conv=>whnf
     refine .inr ⟨_,_,_,S.row 0 rfl,Be KU,?_⟩;conv=>whnf
     refine⟨_,h2,?_⟩;conv=>whnf
     refine ae (fun g2=>?_) (fun g2=>?_)
     ·rw[if_pos g2]at hK;conv=>whnf
      refine⟨_,S.row 0 rfl,⟨by omega,by omega⟩,?_⟩;conv=>whnf
      refine .inr ⟨_,_,_,S.row 0 rfl,Be KU,?_⟩;conv=>whnf
      refine⟨_,S.row 0 rfl,⟨by omega,by omega⟩,?_⟩;conv=>whnf
      refine⟨_,rfl,rfl,rfl,.inr ⟨_,_,_,S.row 0 rfl,Be KU,?_⟩⟩;conv=>whnf
      intro c1 se;replace S:=S.setRow 0 (e':=(.agg [P,i64 (lK b.w w)])) rfl KU se;clear se;dsimp only[List.set]at S;conv=>whnf
      refine⟨_,S.row 0 rfl,⟨by omega,by omega⟩,?_⟩;conv=>whnf
      refine .inr ⟨_,_,_,S.row 0 rfl,Be KU,?_⟩;conv=>whnf
      refine ae (fun g3=>?_) (fun g3=>?_)
      ·rw[if_pos g3]at hK;have hw:IntKind.i64.wrap (((j:Nat):Int)+1)=(j:Int)+1:=by rw[aaC];omega
       have Rc:VB.all (jh 2)=true:=Q8 (S.get 3 rfl:cZ c1 (B.map Item.d) VB F2);have hVl:VB.length=B.length:=by have:=iw (S.get 3 rfl:cZ c1 (B.map Item.d) VB F2);simpa using this
       conv=>whnf
       refine⟨_,S.row 0 rfl,⟨by simp,by simp,by simp;omega⟩,?_⟩;conv=>whnf
       refine⟨_,S.row 0 rfl,⟨by rw[hw];simp;omega,by rw[hw];simp;omega,by simp⟩,?_⟩;conv=>whnf
       refine⟨trivial,?_⟩;conv=>whnf
       refine⟨VB,tT (S.row 0 rfl) (by rw[hw];simp;omega) ?_,Rc,?_⟩
       ·rw[hw];rw[show 0+((some ((j:Int)+1)).getD 0).toNat=VA.length+1 by simp;omega,show VA++af.agg [P,i64 (lK b.w w)]::VB=(VA++[af.agg [P,i64 (lK b.w w)]])++VB by simp,List.drop_left' (by simp)];rw[abt];simp;omega
       refine ng S (by simp;omega) (by simp;omega) fun k c2 S2=>?_;conv=>whnf
       rw[show(VA++af.agg [P,i64 (lK b.w w)]::VB).take (((some ((j:Nat):Int)).getD ((A++b::B).length:Nat)).toNat-((none:Option Int).getD 0).toNat)=VA by
        rw[show((some ((j:Nat):Int)).getD ((A++b::B).length:Nat)).toNat-((none:Option Int).getD 0).toNat=VA.length by simp;omega,List.take_left]]at S2
       have S3:=((S2.drop 2).front 2 rfl).front 2 rfl;dsimp only[List.eraseIdx]at S3;have S4:=(aj.MH S3).swap;rw[<-aaD]at S4;exact⟨_,rfl,hK _ _ _ (aj.jX S4 (by simp;omega))⟩
      ·rw[if_neg (by rw[g3];simp)]at hK;conv=>whnf
       have S2:=((S.front 3 rfl).front 3 rfl).front 3 rfl;dsimp only[List.eraseIdx]at S2;obtain⟨F3,S3⟩:=aj.KT (w:=lK b.w w) S2;exact⟨_,rfl,hK _ _ _ (aj.jX S3.swap (by simp))⟩
     ·rw[if_neg (by rw[g2];simp)]at hK;conv=>whnf
      refine ae (fun g3=>?_) (fun g3=>?_)
      ·rw[if_pos g3]at hK;conv=>whnf
       have S2:=((S.front 3 rfl).front 3 rfl).front 3 rfl;dsimp only[List.eraseIdx]at S2;obtain⟨F3,S3⟩:=aj.KT (w:=b.w) S2;exact⟨_,rfl,hK _ _ _ (aj.jX S3.swap (by simp))⟩
      ·rw[if_neg (by rw[g3];simp)]at hK;have Rc:VB.all (jh 2)=true:=Q8 (S.get 3 rfl:cZ hq (B.map Item.d) VB F2);have hVl:VB.length=B.length:=by have:=iw (S.get 3 rfl:cZ hq (B.map Item.d) VB F2);simpa using this
       have heb:jh 2 (.agg [P,i64 b.w])=true:=by
        have:=fi (cs:=[P,i64 b.w]) (sz:=2) rfl (bM hP.cell.2 rfl)
        rwa [abi,List.all_nil,Bool.and_true]at this
       have hEB:(af.agg [P,i64 b.w]::VB).all (jh 2)=true:=by rw[abi,heb,Rc];rfl
       have h3:=qL hp r hr;conv=>whnf
       refine⟨_,S.row 0 rfl,⟨by simp,by simp;omega,by simp⟩,?_⟩;conv=>whnf
       refine⟨trivial,?_⟩;conv=>whnf
       refine⟨af.agg [P,i64 b.w]::VB,tT (S.row 0 rfl) (by simp;omega) ?_,hEB,?_⟩
       ·rw[show 0+((some ((j:Nat):Int)).getD 0).toNat=VA.length by simp;omega,List.drop_left,abt];simp;omega
       refine oU S (by simp) (by simp;omega) fun k2 c2 S2=>?_;clear S;have S:aj c2 (.row k2 (.arr 2 (af.agg [P,i64 b.w]::VB))::_):=S2;clear S2;conv=>whnf
       refine⟨_,S.row 1 rfl,⟨by simp,by simp,by simp;omega⟩,?_⟩;conv=>whnf
       refine fp S h3 rfl (rG (Ma _ (((((S.drop 0).drop 0).drop 0).drop 0).drop 0))) fun Q q3 F3 o3 S3=>?_;clear S;have S:=S3;clear S3;conv=>whnf
       refine ep o3.cell.1 ?_;conv=>whnf
       intro pI pJ dT dU;replace S:=S.alloc dT dU;conv=>whnf
       refine⟨trivial,?_⟩;conv=>whnf
       refine⟨[_],bT (S.row 0 rfl),fi rfl (bM o3.cell.2 rfl),?_⟩;replace S:=S.drop 0;dsimp only[List.eraseIdx]at S;replace S:=S.q2;refine ng S (by simp;omega) (by simp;omega) fun k4 c4 S4=>?_;clear S
       rw[show(VA++af.agg [P,i64 b.w]::VB).take (((some ((j:Nat):Int)).getD ((A++b::B).length:Nat)).toNat-((none:Option Int).getD 0).toNat)=VA by
        rw[show((some ((j:Nat):Int)).getD ((A++b::B).length:Nat)).toNat-((none:Option Int).getD 0).toNat=VA.length by simp;omega,List.take_left]]at S4
       have S:aj c4 (.row k4 (.arr 2 (VA++[af.agg [Q,i64 w]]))::_):=S4;clear S4;conv=>whnf
       refine⟨trivial,?_⟩;conv=>whnf
       refine⟨af.agg [P,i64 b.w]::VB,tT (S.row 2 rfl) (by simp) (by simp),hEB,?_⟩;refine ng S (by simp;omega) (by simp;omega) fun k5 c5 S5=>?_;clear S;rw[abt (by simp;omega),abr]at S5;have S6:=(S5.drop 2).front 3 rfl;dsimp only[List.eraseIdx]at S6;have S7:=S6.is (c':=.dL b.d (.agg [P,i64 b.w]) (G++[])) (iF.2 ⟨_,rfl,jD (S6.get 0 rfl) (fh iL)⟩) (by simp[Chunk.dL]);have S8:=aj.Q9 (S7.front 4 rfl).swap;dsimp only[List.eraseIdx]at S8;have S9:=(S8.front 2 rfl).front 3 rfl;dsimp only[List.eraseIdx]at S9;obtain⟨F9,S10⟩:=aj.KT (B:=b::B) (w:=w) S9;conv=>whnf
       exact⟨_,rfl,hK _ _ _ (aj.jX S10.swap (by simp;omega))⟩
theorem Of(hp:cF pr)(r:List Int)(w:Int)(rv:af)(hr:r.length<=dB){h:aG}{L:List Chunk}(S:aj h L)(Ma: ∀h',aj h' L->Am.snap h' rv=some (.sl (r.map i64))){K:ef->Prop}
  (hK: ∀v' h' F',aj h' (.jA 2 ((hY [] r w).map Item.d) v' F'::L)->K (.ret v' h')):Hm (dZ pr) 87 [.nil,rv,i64 w] h K:=by
   have h3:=qL hp r hr;unfold hY at hK;conv=>whnf
   refine kG ?_;conv=>whnf
   refine ae (fun g1=>?_) (fun g1=>?_)
   ·rw[if_pos g1]at hK;conv=>whnf
    exact⟨_,rfl,hK _ _ _ (aj.lJ 2 S)⟩
   ·rw[if_neg (by rw[g1];simp)]at hK;conv=>whnf
    refine⟨⟨rfl,rfl⟩,?_⟩;conv=>whnf
    refine⟨trivial,?_⟩;conv=>whnf
    refine⟨[],rfl,rfl,?_⟩;refine .inl ⟨rfl,?_⟩;conv=>whnf
    refine⟨⟨rfl,rfl⟩,?_⟩;conv=>whnf
    refine fp S h3 rfl (rG (Ma _ S)) fun Q q3 F3 o3 S3=>?_;clear S;have S:=S3;clear S3;conv=>whnf
    refine ep o3.cell.1 ?_;conv=>whnf
    intro pI pJ dT dU;replace S:=S.alloc dT dU;conv=>whnf
    refine⟨trivial,?_⟩;conv=>whnf
    refine⟨[_],bT (S.row 0 rfl),fi rfl (bM o3.cell.2 rfl),?_⟩;replace S:=S.drop 0;dsimp only[List.eraseIdx]at S;refine lp (sz:=2) ((aj.lJ 2 (rH (w:=w) S))) (by simp[bB]) fun k4 c4 F4 S4=>?_;clear S;have S:=S4;clear S4;conv=>whnf
    refine⟨trivial,?_⟩;conv=>whnf
    refine⟨[],rfl,rfl,?_⟩;rcases aj.wH S with⟨g1,_,_⟩|⟨id,vs,Fs,he,S5⟩
    ·simp at g1
    ·cases he
     have CI:vs.length=1:=by have:=iw (S5.get 1 rfl);simpa using this
     refine ng S5 (by simp;omega) (by simp[bB]) fun k5 c5 S6=>?_;rw[abt (by simp;omega),aaw]at S6;conv=>whnf
     exact⟨_,rfl,hK _ _ _ (aj.jX (xs:=[Item.d ⟨r,w⟩]) S6 (by simp))⟩
include hp in
theorem l8(z:List Item)(r:List Int)(w:Int)(rv:af)(hl:z.length<=dB)(hz: ∀x∈z,x.row.length<=dB)(hr:r.length<=dB){v:af}{F:List Nat}{h:aG}{L:List Chunk}
  (S:aj h (.jA 2 (z.map Item.d) v F::L)) (Ma: ∀h',aj h' L->Am.snap h' rv=some (.sl (r.map i64))) {K:ef->Prop}
  (hK: ∀v' h' F',aj h' (.jA 2 ((hY z r w).map Item.d) v' F'::L)->K (.ret v' h')): ∃x,cj (dZ pr) (call (dZ pr)) 87 [v,rv,i64 w] h=some x/\K x:=by
   rw[nN rfl];rcases aj.wH S with⟨g1,rfl,S1⟩|⟨id,vs,Fs,rfl,S1⟩
   ·have:z=[]:=List.map_eq_nil_iff.1 g1;subst this;exact mM (hp.out _ rfl) (Of hp r w rv hr S1 Ma hK)
   ·rw[aat];exact mM (hp.out _ rfl) (Oe hp z r w rv hl hz hr S1 Ma hK)
end Go.Proofs.YtfepbikckfehlaaGreat
set_option maxHeartbeats 4000000
namespace Go.Proofs.YtfepbikckfehlaaGreat
open Go Go.Am
variable{pr:bW}(hp:cF pr)
set_option maxRecDepth 100000
theorem x7(h:aG)(xs:List Int):Am.snap h (.sl (xs.map i64))=some (.sl (xs.map i64)):=rfl
theorem Og{a b:List Item}{j:Nat}(h:j<b.length):dt a (b.take (j+1))=hY (dt a (b.take j)) b[j].row b[j].w:=by
 rw[dX h,dt,List.foldl_append];rfl
theorem l9(hp:cF pr)(a b:List Item)(ha:ij a)(hb:ij b)(hl:a.length+b.length<=dB):u0 pr 56 [.sl (a.map Item.enc),.sl (b.map Item.enc)] 2 ((dt a b).map Item.d):=by
 have h1:=l7 hp a ha;refine E8 hp rfl ?_;have S:=aj.nil [];conv=>whnf
 refine dG S h1 rfl rfl fun v1 q1 F1 S1=>?_;replace S:=S1;clear S1;conv=>whnf
 refine iv (fun m tm hp=>∃(j:Nat)(D:af)(F:List Nat),j+m=b.length/\tm 5=D/\tm 6=i64 (j:Nat)/\aj hp [.jA 2 ((dt a (b.take j)).map Item.d) D F]) (fun m tm hq bG hI=>?_) (b.length) ⟨0,v1,F1,by simp,(by first|rfl|kernel_rfl|simp),(by first|rfl|kernel_rfl|simp),S⟩;obtain⟨j,D,F,hj,e5,e6,S2⟩:=hI;have k1:=bG 1 (by kernel_rfl);conv at k1=>rhs;whnf
 rw[<-aR k1];rw[<-aR e5];rw[<-aR e6];clear bG k1 e5 e6;clear S;have S:=S2;clear S2;conv=>whnf
 have gA:j<4611686018427387904:=by simp[dB]at hl;omega
 refine ae (fun h1=>?_) (fun h1=>?_)
 ·have bp:j<b.length:=by simpa using h1
  have dw:(b.map Item.enc)[((j:Nat):Int).toNat]?=some (Item.enc b[j]):=by rw[aaa];simp[bp]
  have uj:=gx (a:=a) (b:=b.take j) ha.2 (fun x hx=>hb.2 x (abz hx));have dN:=Og (a:=a) bp;have eQ:=hb.2 _ (aac bp);generalize b[j]=x at dw dN eQ;obtain⟨row,w⟩:=x;conv=>whnf
  refine⟨_,dw,by omega,rfl,?_⟩;conv=>whnf
  refine⟨_,dw,by omega,rfl,?_⟩;conv=>whnf
  refine l8 hp _ row w _ (by have:=uj.1;simp at this;omega) uj.2 eQ S (fun h' _=>x7 h' row) fun v' h' F' S1=>?_;conv=>whnf
  exact⟨m-1,by omega,j+1,_,_,by omega,rfl,aP j gA,by rw[dN];exact S1⟩
 ·have bp:j=b.length:=by
   have: ¬j<b.length:=by simpa using h1
   omega
  subst bp;rw[aar]at S;conv=>whnf
  exact⟨_,rfl,_,_,_,rfl,S.get 0 rfl,(S.get' 0 _ rfl).2⟩
def jd(bH:List (List Item)):List Item:=bH.foldl dt []
theorem Oh{bH:List (List Item)}{j:Nat}(h:j<bH.length):jd (bH.take (j+1))=dt (jd (bH.take j)) bH[j]:=by
 rw[dX h,jd,List.foldl_append];rfl
theorem wN{bH:List (List Item)}(h: ∀z∈bH,dS z=true):(jd bH).length<=100*bH.length/\ ∀x∈jd bH,x.row.length<=dB:=by
 have key: ∀(rs:List (List Item))(a:List Item),(∀z∈rs,dS z=true)->(∀x∈a,x.row.length<=dB)->(rs.foldl dt a).length<=a.length+100*rs.length/\ ∀x∈rs.foldl dt a,x.row.length<=dB:=by
  intro rs
  induction rs with
  |nil=>intro a _ ha;exact⟨by simp,ha⟩
  |cons z zs ih=>
   intro a hz ha;have h1:=dC (hz z (by simp));have h2:=gx ha h1.2;have h3:=(dA (hz z (by simp))).1;obtain⟨h4,h5⟩:=ih (dt a z) (fun y hy=>hz y (by simp[hy])) h2.2;simp only[List.foldl_cons,aak];exact⟨by omega,h5⟩
 have:=key bH [] h (by simp);unfold jd;exact⟨by simpa using this.1,this.2⟩
theorem wO(hp:cF pr)(bH:List (List Item))(hz: ∀z∈bH,dS z=true)(hl:bH.length<=1000):u0 pr 142 [.agg [bX.enc bH]] 2 ((jd bH).map Item.d):=by
 refine E8 hp rfl ?_;have S:=aj.nil [];conv=>whnf
 intro k1 a1 eg er;replace S:=S.alloc eg er;conv=>whnf
 replace S:=aj.lJ 2 S;refine iv (fun m tm hp=>∃(j:Nat)(D:af)(F:List Nat),j+m=bH.length/\tm 3=D/\tm 4=i64 (j:Nat)/\aj hp [.jA 2 ((jd (bH.take j)).map Item.d) D F,.row k1 (.box (.agg [bX.enc bH]))]) (fun m tm hq bG hI=>?_) (bH.length) ⟨0,.nil,[],by simp,(by first|rfl|kernel_rfl|simp),(by first|rfl|kernel_rfl|simp),S⟩;obtain⟨j,D,F,hj,e3,e4,S2⟩:=hI;have k1:=bG 1 (by kernel_rfl);conv at k1=>rhs;whnf
 rw[<-aR k1];rw[<-aR e3];rw[<-aR e4];clear bG k1 e3 e4;clear S;have S:=S2;clear S2;conv=>whnf
 have gA:j<4611686018427387904:=by omega
 refine aC (S.row 1 rfl) ?_;conv=>whnf
 refine ae (fun h1=>?_) (fun h1=>?_)
 ·have bp:j<bH.length:=by simpa using h1
  have dw:(bH.map aI.enc)[((j:Nat):Int).toNat]?=some (aI.enc bH[j]):=by rw[aaa];simp[bp]
  have dN:=Oh bp;have hx:=hz _ (aac bp);have hs:=wN (bH:=bH.take j) (fun z h=>hz z (abz h));have xD:ij (jd (bH.take j)):=⟨by have:=hs.1;simp[dB]at this⊢;omega,hs.2⟩;have Rd:=l9 hp (jd (bH.take j)) bH[j] xD (dC hx) (by have:=hs.1;have:=(dA hx).1;simp[dB]at*;omega);have oG:Am.snap hq D=some (aI.enc (jd (bH.take j))):=aI.iT (show sv _ _ _ _ _ from S.get 0 rfl).1;generalize bH[j]=x at dw dN hx Rd;refine aC (S.row 1 rfl) ?_;conv=>whnf
  refine⟨_,dw,by omega,rfl,?_⟩;conv=>whnf
  refine dG S Rd rfl (lj oG rfl) fun v' h' F' S1=>?_;conv=>whnf
  replace S1:=S1.pick [0,2] (by decide);simp only[lY,aaT,abd]at S1;exact⟨m-1,by omega,j+1,_,_,by omega,rfl,aP j gA,by rw[dN];exact S1⟩
 ·have bp:j=bH.length:=by
   have: ¬j<bH.length:=by simpa using h1
   omega
  subst bp;rw[aar]at S;conv=>whnf
  exact⟨_,rfl,_,_,_,rfl,S.get 0 rfl,(S.get' 0 _ rfl).2⟩
def qe:List (List Item)->List (List Item)->Bool
 |_,[]=>true
 |done,z::rest=>(dS z&& !z.isEmpty)&&((done.isEmpty||dS (jd (done++[z])))&&qe (done++[z]) rest)
def fq(bH:List (List Item)):Bool:=decide (bH.length<=5)&&qe [] bH
theorem Re{bH:List (List Item)}{j:Nat}(h:j<bH.length):qe (bH.take j) (bH.drop j)=((dS bH[j]&& !bH[j].isEmpty)&&(((bH.take j).isEmpty||dS (jd (bH.take (j+1))))&&qe (bH.take (j+1)) (bH.drop (j+1)))):=by
 rw[aaf h,dX h];rfl
theorem Oi{done rest:List (List Item)}(h:qe done rest=true): ∀z∈rest,dS z=true:=by
 induction rest generalizing done with
 |nil=>intro z hz;simp at hz
 |cons y ys ih=>
  simp only[qe,xz]at h;intro z hz;rcases aaz.1 hz with rfl|hz
  ·exact h.1.1
  ·exact ih h.2.2 z hz
theorem eo{bH:List (List Item)}(h:fq bH=true):bH.length<=5/\ ∀z∈bH,dS z=true:=by
 simp only[fq,xz,decide_eq_true_iff]at h;exact⟨h.1,Oi h.2⟩
def s7(bH:List (List Item)):Prop:=bH.length<=dB/\ ∀z∈bH,ij z
theorem qN(hp:cF pr)(bH:List (List Item))(hr:s7 bH):dK pr 127 [.agg [bX.enc bH]] (.bool (fq bH)):=by
 obtain⟨hl,hr⟩:=hr;refine ff hp rfl rfl ?_;have S:=aj.nil [];conv=>whnf
 intro k1 a1 eg er;replace S:=S.alloc eg er;refine aC (S.row 0 rfl) ?_;conv=>whnf
 refine ae (fun h0=>?_) (fun h0=>?_)
 ·conv=>whnf
  exact br (by have: ¬bH.length<=5:=by simp at h0;omega
               simp[fq,this])
 have h5:bH.length<=5:=by simp at h0;omega
 have hz:fq bH=qe [] bH:=by simp[fq,h5]
 rw[hz];clear hz h0;conv=>whnf
 refine iv (fun m tm hp=>∃(j:Nat),j+m=bH.length/\tm 3=i64 (j:Nat)/\aj hp [.row k1 (.box (.agg [bX.enc bH]))]/\(qe [] bH=qe (bH.take j) (bH.drop j)/\ ∀z∈bH.take j,dS z=true)) (fun m tm hq bG hI=>?_) (bH.length) ⟨0,by simp,(by first|rfl|kernel_rfl|simp),S,(⟨rfl,by simp⟩)⟩;obtain⟨j,hj,e3,S2,aF⟩:=hI;have k1:=bG 1 (by kernel_rfl);conv at k1=>rhs;whnf
 rw[<-aR k1];rw[<-aR e3];clear bG k1 e3;clear S;have S:=S2;clear S2;conv=>whnf
 obtain⟨aF,eb⟩:=aF;refine aC (S.row 0 rfl) ?_;conv=>whnf
 refine ae (fun h1=>?_) (fun h1=>?_)
 ·have bp:j<bH.length:=by simpa using h1
  have dw:(bH.map aI.enc)[((j:Nat):Int).toNat]?=some (aI.enc bH[j]):=by rw[aaa];simp[bp]
  rw[Re bp]at aF;have hx:=hr _ (aac bp);have h2:=iU hp bH[j] hx;have vE:=dX bp;have Iu:IntKind.i64.wrap (((j:Nat):Int)+1)=(j:Int)+1:=by rw[aaC];omega
  have KX:dS bH[j]=true-> ∀z∈bH.take (j+1),dS z=true:=fun h z hz=>by
   rw[vE]at hz;rcases aaS.1 hz with hz|hz
   ·exact eb z hz
   ·simp at hz;subst hz;exact h
  have h4:dS bH[j]=true->u0 pr 142 [.agg [.sl (((bH.map aI.enc).drop 0).take (IntKind.i64.wrap (((j:Nat):Int)+1)).toNat)]] 2 ((jd (bH.take (j+1))).map Item.d):=fun h=>by
   rw[Iu,List.drop_zero,<-List.map_take];exact wO hp _ (KX h) (by simp;omega)
  have h6:dS bH[j]=true->dK pr 23 [aI.enc (jd (bH.take (j+1)))] (.bool (dS (jd (bH.take (j+1))))):=fun h=>by
   have:=wN (KX h);exact iU hp _ ⟨by have h':=this.1;simp at h';simp[dB];omega,this.2⟩
  generalize vS:bH[j]=x at dw h2 aF vE h4 h6 KX;refine aC (S.row 0 rfl) ?_;conv=>whnf
  refine⟨_,dw,by omega,rfl,?_⟩;conv=>whnf
  refine⟨_,h2 _,?_⟩;conv=>whnf
  refine ae (fun h3=>?_) (fun h3=>?_)
  ·replace h4:=h4 h3;replace h6:=h6 h3;replace KX:=KX h3;clear h2;rw[h3]at aF;refine aC (S.row 0 rfl) ?_;conv=>whnf
   refine⟨_,dw,by omega,rfl,?_⟩;conv=>whnf
   refine ae (fun h7=>?_) (fun h7=>?_)
   ·conv=>whnf
    exact br (by rw[aF];have:x=[]:=aaM.1 (by simpa using h7);subst this;first|done|rfl)
   ·have mD:x.isEmpty=false:=by cases x with|nil=>simp at h7|cons a b=>rfl
    rw[mD]at aF;simp only[Bool.not_false,Bool.and_true,aay]at aF
    cases j with
    |zero=>
     conv=>whnf
     exact⟨m-1,by omega,1,by omega,aP 0 (by omega),S,by rw[aF];rfl,KX⟩
    |succ i=>
     have Wf:(bH.take (i+1)).isEmpty=false:=by
      cases bH with
      |nil=>simp at bp
      |cons y ys=>rfl
     rw[Wf,Bool.false_or]at aF;conv=>whnf
     refine fS (by simp<;>omega) ?_;refine aC (S.row 0 rfl) ?_;conv=>whnf
     refine⟨⟨by decide,by rw[Iu];simp;omega,by rw[Iu];simp;omega,by rw[aaj];intro y hy;obtain⟨q,_,rfl⟩:=aaO.1 hy;rfl⟩,?_⟩;conv=>whnf
     refine dG S h4 rfl rfl fun v' q1 F' S1=>?_;have oG:=aI.iT (show sv _ _ _ _ _ from S1.get 0 rfl).1;conv=>whnf
     refine⟨_,dK.here h6 (rG oG) rfl rfl,?_⟩;replace S:=S1.drop 0;clear S1 oG;conv=>whnf
     refine ae (fun h8=>?_) (fun h8=>?_)
     ·rw[h8,aay]at aF;conv=>whnf
      exact⟨m-1,by omega,i+1+1,by omega,aP (i+1) (by omega),S,aF,KX⟩
     ·conv=>whnf
      exact br (by rw[aF,h8];first|done|rfl)
  ·conv=>whnf
   exact br (by rw[aF,h3];simp)
 ·have bp:j=bH.length:=by
   have: ¬j<bH.length:=by simpa using h1
   omega
  subst bp;rw[aal]at aF;conv=>whnf
  exact br (by rw[aF];first|done|rfl)
def mP(dP:Int):List Item->List dg->List Item
 |z,[]=>z
 |z,p::ps=>mP dP (if p.dP<=dP then dt z p.out else z) ps
def s8:List Item->List (List Item)->Bool
 |_,[]=>true
 |all,z::rest=>(!z.isEmpty&&(dS z&&dS (eI all z)))&&s8 (eI all z) rest
def iV(bH:List (List Item)):Bool:=decide (bH.length<=5)&&s8 [] bH
theorem Rf(hp:cF pr)(bH:List (List Item))(hr:s7 bH):dK pr 143 [bX.enc bH] (.bool (iV bH)):=by
 obtain⟨hl,hr⟩:=hr;refine ff hp rfl rfl ?_;have S:=aj.nil [];conv=>whnf
 refine ae (fun h0=>?_) (fun h0=>?_)
 ·conv=>whnf
  exact br (by have: ¬bH.length<=5:=by simp at h0;omega
               simp[iV,this])
 have h5:bH.length<=5:=by simp at h0;omega
 have hz:iV bH=s8 [] bH:=by simp[iV,h5]
 rw[hz];clear hz h0;conv=>whnf
 refine iv (fun m tm hp=>∃(j:Nat)(V:af)(z:List Item),j+m=bH.length/\tm 3=V/\tm 11=i64 (j:Nat)/\((ij z/\z.length<=100)/\dc [] [V]=some [aI.enc z])/\(s8 [] bH=s8 z (bH.drop j))) (fun m tm hq bG hI=>?_) (bH.length) ⟨0,.nil,[],by simp,(by first|rfl|kernel_rfl|simp),(by first|rfl|kernel_rfl|simp),(⟨⟨⟨by simp,by simp⟩,by simp⟩,rfl⟩),(rfl)⟩;obtain⟨j,V,z,hj,e3,Kr,hz,aF⟩:=hI;have k9:=bG 9 (by kernel_rfl);conv at k9=>rhs;whnf
 rw[<-aR k9];have Wh:=bG 10 (by kernel_rfl);conv at Wh=>rhs;whnf
 rw[<-aR Wh];rw[<-aR e3];rw[<-aR Kr];clear bG k9 Wh e3 Kr;have S:aj hq []:=aj.nil hq;conv=>whnf
 obtain⟨⟨hz,hz2⟩,hV⟩:=hz
 have hV:Am.snap [] V=some (aI.enc z):=by
  unfold dc at hV;simp only[di]at hV
  cases h:Am.snap [] V with
  |none=>rw[h]at hV;cases hV
  |some q=>rw[h]at hV;simpa using hV
 have vM:=hl;unfold dB at vM;refine ae (fun h1=>?_) (fun h1=>?_)
 ·have bp:j<bH.length:=by simpa using h1
  have dw:(bH.map aI.enc)[((j:Nat):Int).toNat]?=some (aI.enc bH[j]):=by rw[aaa];simp[bp]
  rw[aaf bp]at aF;have hx:=hr _ (aac bp);generalize bH[j]=x at dw aF hx;simp only[s8]at aF;have Xf:=hx.1;unfold dB at Xf
  by_cases hxz:x.length<=100
  ·have hmz:ij (eI z x):=Bi hz hx (by simp[dB];omega);have h2:=(vg hp z x hz hx).mX (args:=[V,aI.enc x]) (lj hV rfl) rfl;have h3:=uX hp x hx;have h4:=uX hp (eI z x) hmz;conv=>whnf
   refine⟨_,dw,by omega,rfl,?_⟩;conv=>whnf
   refine⟨_,h2 _,?_⟩;conv=>whnf
   refine ae (fun g1=>?_) (fun g1=>?_)
   ·conv=>whnf
    exact br (by rw[aF];have:x=[]:=aaM.1 (by simpa using g1);subst this;rfl)
   ·have mD:x.isEmpty=false:=by cases x with|nil=>simp at g1|cons a b=>rfl
    rw[mD]at aF;conv=>whnf
    refine⟨_,h3 _,?_⟩;conv=>whnf
    refine ae (fun g2=>?_) (fun g2=>?_)
    ·rw[g2]at aF;conv=>whnf
     refine⟨_,h4 _,?_⟩;conv=>whnf
     refine ae (fun g3=>?_) (fun g3=>?_)
     ·rw[g3]at aF;conv=>whnf
      exact⟨m-1,by omega,j+1,_,eI z x,by omega,rfl,aP j (by omega),⟨⟨hmz,(dA g3).1⟩,rfl⟩,aF⟩
     ·rw[g3]at aF;conv=>whnf
      exact br (by rw[aF];rfl)
    ·rw[g2]at aF;conv=>whnf
     exact br (by rw[aF];rfl)
  ·have hnz:dS x=false:=by simp[dS,hxz]
   have hmz:ij (eI z x)∨True:=.inr trivial;have h2:=(vg hp z x hz hx).mX (args:=[V,aI.enc x]) (lj hV rfl) rfl;have h3:=uX hp x hx;rw[hnz]at h3 aF;conv=>whnf
   refine⟨_,dw,by omega,rfl,?_⟩;conv=>whnf
   refine⟨_,h2 _,?_⟩;conv=>whnf
   refine bm (by simp;intro e;rw[e]at hxz;simp at hxz) ?_;conv=>whnf
   refine⟨_,h3 _,?_⟩;conv=>whnf
   exact br (by rw[aF];simp)
 ·have bp:j=bH.length:=by
   have: ¬j<bH.length:=by simpa using h1
   omega
  subst bp;rw[aal]at aF;conv=>whnf
  exact br (by rw[aF];rfl)
theorem Iv(hp:cF pr)(bH:List (List Item))(hr:s7 bH):dK pr 131 [.agg [bX.enc bH]] (.bool (iV bH)):=by
 have h:=Rf hp bH hr;refine ff hp rfl rfl ?_;have S:=aj.nil []
 iterate 4
  all_goals(try(conv=>whnf))
  all_goals(first|(intro iK cp ee bf;replace S:=S.alloc ee bf)|(refine aC (S.row 0 rfl) ?_)|(refine aC (S.row 1 rfl) ?_)|(refine aC (S.row 2 rfl) ?_)|(refine aC (S.row 3 rfl) ?_)|(refine aC (S.row 4 rfl) ?_)|(refine⟨_,rfl,rfl,rfl,.inl ⟨_,S.row 0 rfl,rfl,?_⟩⟩;(conv=>whnf);intro cp bf;replace S:=S.w0 bf)|(refine⟨_,rfl,rfl,rfl,.inl ⟨_,S.row 1 rfl,rfl,?_⟩⟩;(conv=>whnf);intro cp bf;replace S:=S.w1 bf)|(refine⟨_,rfl,rfl,rfl,.inl ⟨_,S.row 2 rfl,rfl,?_⟩⟩;(conv=>whnf);intro cp bf;replace S:=S.w2 bf)|(refine⟨_,rfl,rfl,rfl,.inl ⟨_,S.row 3 rfl,rfl,?_⟩⟩;(conv=>whnf);intro cp bf;replace S:=S.w3 bf)|(refine⟨_,rfl,rfl,rfl,.inl ⟨_,S.row 4 rfl,rfl,?_⟩⟩;(conv=>whnf);intro cp bf;replace S:=S.w4 bf)|(refine ae (fun hb=>?_) (fun hb=>?_))|(refine⟨_,h _,?_⟩)|skip)
 all_goals exact br hb.symm
theorem Fh(hp:cF pr): ∀(N:Nat)(p:aA),SizeOf.sizeOf p<=N->p.small-> ∀q,q.small->dK pr 105 [p.enc,q.enc] (.bool (eY p q)):=by
 intro N
 induction N with
 |zero=>intro p h;exfalso;cases p;simp at h
 |succ N ih=>
  intro p hs gu q Cr;obtain⟨au,n,aD,cells,a,b,aq,agg,c,ao⟩:=p;obtain⟨cG,n',dq,bR,a',b',cH,dE,c',cE⟩:=q;obtain⟨sc,lf,gS,gE⟩:=eE gu;obtain⟨YW,YX,MJ,Rg⟩:=eE Cr;have hk:=Ic hp aq cH (by omega) (by omega);have hf: ∀p∈ao,∀q∈cE,dK pr 105 [p.enc,q.enc] (.bool (eY p q)):=fun p UP q hq=>ih p (by have:=abo UP;simp at hs;omega) (gE p UP) q (Rg q hq);have hL:=eH ao;have ZV:=eH cE;have e1:(((cells.map Cell.enc).length:Int) !=((bR.map Cell.enc).length:Int))=true->bZ kH cells bR=false:=fun h=>fg (by simp at h;omega);have e2:(((aA.dv ao).length:Int) !=((aA.dv cE).length:Int))=true->qa ao cE=false:=fun h=>by rw[mO];exact fg (by simp[hL,ZV]at h;omega)
  refine cX hp rfl rfl ?_
  iterate 22
   all_goals(try(conv=>whnf))
   all_goals(first|(refine ae (fun hb=>?_) (fun hb=>?_))|(refine⟨_,uR aD dq,wv,rfl,?_⟩)|(refine⟨_,hk _,?_⟩)|skip)
  all_goals(try(refine bw ?_;clear hk hf ih hs gu Cr gE Rg sc lf gS YW YX MJ hL ZV;simp_all[eY,aA.au,aA.n,aA.aD,aA.cells,aA.a,aA.b,aA.aq,aA.agg,aA.col,aA.ao];done))
  rename_i b1 b2 b3 b4 b5 b6 b7 b8 b9;have jM:cells.length=bR.length:=by simp at b9;omega
  have sd:ao.length=cE.length:=by simp[hL,ZV]at hb;omega
  have hpe:eY (aA.mk au n aD cells a b aq agg c ao) (aA.mk cG n' dq bR a' b' cH dE c' cE)=(bZ kH cells bR&&qa ao cE):=by
   clear hk hf ih hs gu Cr gE Rg sc lf gS YW YX MJ hL ZV e1 e2 b9 hb jM sd;simp_all[eY,aA.au,aA.n,aA.aD,aA.cells,aA.a,aA.b,aA.aq,aA.agg,aA.col,aA.ao]
  rw[hpe];clear b1 b2 b3 b4 b5 b6 b7 b8 b9 hb hpe e1 e2 hs ih hk;have H0: ∀(t:Nat->af),True:=fun _=>trivial;refine eD (fun m st=>∃j:Nat,j+m=cells.length/\st.tm 2= .ptr 0 0 0/\st.tm 3= .ptr 1 0 0/\st.tm 5=i64 (j:Nat)/\st.hp=[.box (aA.mk au n aD cells a b aq agg c ao).enc,.box (aA.mk cG n' dq bR a' b' cH dE c' cE).enc]/\bZ kH cells bR=bZ kH (cells.drop j) (bR.drop j)) (fun m st hI=>?_) cells.length _ ⟨0,by simp,rfl,rfl,rfl,rfl,rfl⟩;obtain⟨j,hj,e2,e3,e5,hh,aF⟩:=hI;obtain⟨tm,hq⟩:=st;simp only at e2 e3 e5 hh;subst hh;rw[show tm=fX (fX (fX tm 2 (.ptr 0 0 0)) 3 (.ptr 1 0 0)) 5 (i64 (j:Nat)) by rw[aR e2,aR e3,aR e5]];clear e2 e3 e5;conv=>whnf
  refine ae (fun h1=>?_) (fun h1=>?_)
  ·have bp:j<cells.length:=by simpa using h1
   rw[en bp (by omega)]at aF;conv=>whnf
   refine⟨(cells[j]).enc,by simp[bp],by omega,rfl,?_⟩;conv=>whnf
   refine⟨(bR[j]).enc,by simp[show j<bR.length by omega],by omega,rfl,?_⟩;conv=>whnf
   refine⟨_,kH cells[j] bR[j],A0,rfl,?_⟩;refine ae (fun h2=>?_) (fun h2=>?_)
   ·conv=>whnf
    exact⟨m-1,by omega,j+1,by omega,rfl,rfl,aP j (by omega),rfl,by rw[aF,h2];rfl⟩
   ·conv=>whnf
    exact bw (by rw[aF,h2];rfl)
  ·have bp:j=cells.length:=by have: ¬j<cells.length:=by simpa using h1
                              omega
   subst bp;rw[eN jM]at aF;rw[aF,aay,mO];clear aF;conv=>whnf
   refine eD (fun m st=>∃j:Nat,j+m=ao.length/\st.tm 2= .ptr 0 0 0/\st.tm 3= .ptr 1 0 0/\st.tm 6=i64 (j:Nat)/\st.hp=[.box (aA.mk au n aD cells a b aq agg c ao).enc,.box (aA.mk cG n' dq bR a' b' cH dE c' cE).enc]/\bZ eY ao cE=bZ eY (ao.drop j) (cE.drop j)) (fun m st hI=>?_) ao.length _ ⟨0,by simp,rfl,rfl,rfl,rfl,rfl⟩;obtain⟨j,hj,e2,e3,e6,hh,aF⟩:=hI;obtain⟨tm,hq⟩:=st;simp only at e2 e3 e6 hh;subst hh;rw[show tm=fX (fX (fX tm 2 (.ptr 0 0 0)) 3 (.ptr 1 0 0)) 6 (i64 (j:Nat)) by rw[aR e2,aR e3,aR e6]];clear e2 e3 e6;conv=>whnf
   refine ae (fun h1=>?_) (fun h1=>?_)
   ·have bp:j<ao.length:=by simpa[hL]using h1
    rw[en bp (by omega)]at aF;have eZ:=hf ao[j] (aac bp) cE[j] (aac _);have g1:(aA.dv ao)[((j:Nat):Int).toNat]?=some ao[j].enc:=by rw[aaa,fN,aab bp];rfl
    have g2:(aA.dv cE)[((j:Nat):Int).toNat]?=some cE[j].enc:=by rw[aaa,fN,aab (show j<cE.length by omega)];rfl
    generalize ao[j]=x at eZ aF g1;generalize cE[j]=y at eZ aF g2;obtain⟨adl,n3,adm,abE,a3,b3,adn,afw,c3,ado⟩:=x;obtain⟨adp,n4,adq,abF,a4,b4,adr,afx,c4,ads⟩:=y;conv=>whnf
    refine⟨_,g1,by omega,rfl,?_⟩;conv=>whnf
    refine⟨_,g2,by omega,rfl,?_⟩;conv=>whnf
    refine⟨_,eZ _,?_⟩;conv=>whnf
    refine ae (fun h2=>?_) (fun h2=>?_)
    ·conv=>whnf
     exact⟨m-1,by omega,j+1,by omega,rfl,rfl,aP j (by omega),rfl,by rw[aF,h2];rfl⟩
    ·conv=>whnf
     exact bw (by rw[aF,h2];rfl)
   ·have bp:j=ao.length:=by have: ¬j<ao.length:=by simpa[hL]using h1
                            omega
    subst bp;rw[eN sd]at aF;conv=>whnf
    exact bw aF.symm
theorem y8(hp:cF pr)(p q:aA)(gu:p.small)(Cr:q.small):dK pr 105 [p.enc,q.enc] (.bool (eY p q)):=Fh hp _ p (aah _) gu q Cr
end Go.Proofs.YtfepbikckfehlaaGreat
set_option maxHeartbeats 4000000
namespace Go.Proofs.YtfepbikckfehlaaGreat
open Go Go.Am
variable{pr:bW}(hp:cF pr)
set_option maxRecDepth 100000
mutual
def aA.fits:aA->Prop
 | .mk au n aD cells a b aq agg c ao=>cells.length<=9223372036854775807/\aq.length<=9223372036854775807/\ao.length<=9223372036854775807/\aA.UT ao
def aA.UT:List aA->Prop
 | []=>True
 |p::ps=>p.fits/\aA.UT ps
end
end Go.Proofs.YtfepbikckfehlaaGreat
set_option maxHeartbeats 4000000
namespace Go.Proofs.YtfepbikckfehlaaGreat
open Go Go.Am
variable{pr:bW}(hp:cF pr)
set_option maxRecDepth 100000
end Go.Proofs.YtfepbikckfehlaaGreat

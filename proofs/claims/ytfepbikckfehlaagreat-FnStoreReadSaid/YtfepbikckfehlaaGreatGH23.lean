/- Items together, runs together: the reference's. -/
import Derived.Test.YtfepbikckfehlaaGreatGH22
import Derived.Test.YtfepbikckfehlaaGreatGH12
set_option linter.unusedVariables false
set_option linter.unusedSimpArgs false
set_option maxHeartbeats 4000000
namespace Go.Proofs.YtfepbikckfehlaaGreat
open Go Go.Am
variable{pr:bL}(hp:bV pr)
set_option maxRecDepth 100000
theorem Mi(hp:bV pr)(z:List Item)(r:List Int)(w:Int)(rv:af)(hl:z.length<=cM)(hz: ∀x∈z,x.row.length<=cM)(hr:r.length<=cM){id:Nat}{vs:List af}{F:List Nat}{h:aC}{L:List Chunk}
  (S0:ah h (.row id (.arr 2 vs):: .dy (z.map Item.d) vs F::L)) (Kh: ∀h',ah h' L->Am.snap h' rv=some (.sl (r.map i64))) {K:dz->Prop}
  (hK: ∀v' h' F',ah h' (.iA 2 ((fT z r w).map Item.d) v' F'::L)->K (.ret v' h')):Fe (du pr) 87 [.own id 0 z.length,rv,i64 w] h K:=by
   have wh:vs.length=z.length:=by have:=gb (S0.get 1 rfl);simpa using this
   have vE:Am.snap h rv=some (.sl (r.map i64)):=Kh h ((S0.drop 0).drop 0);conv=>whnf
   refine ga (fun m tm hp=>∃(j:Nat)(A:List Item)(B:List Item),j+m=z.length/\tm 7=i64 (j:Nat)/\(hp=h)/\(z=A++B/\A.length=j/\ ∀x∈A,eg x.row r=true)) (fun m tm hq bz hI=>?_) (z.length) ⟨0,[],z,by simp,(by first|rfl|kernel_rfl|simp),(rfl),(⟨rfl,rfl,by simp⟩)⟩;obtain⟨j,A,B,hj,e7,hh,hAB⟩:=hI;have k0:=bz 0 (by kernel_rfl);conv at k0=>rhs;whnf
   rw[<-aP k0];have k1:=bz 1 (by kernel_rfl);conv at k1=>rhs;whnf
   rw[<-aP k1];have k2:=bz 2 (by kernel_rfl);conv at k2=>rhs;whnf
   rw[<-aP k2];rw[<-aP e7];clear bz k0 k1 k2 e7;have S:ah hq []:=ah.nil hq;conv=>whnf
   subst hh;obtain⟨rfl,Ya,hA⟩:=hAB;clear S;have S:=S0;clear S0;rw[List.length_append]at hj;have fw:j<4611686018427387904:=by simp[cM]at hl;omega
   cases B with
   |nil=>
    rw[aU]at*;simp only[List.length_nil]at hj;subst Ya
    have Gk:fT A r w=if w==0 then A else A++[⟨r,w⟩]:=by
     have:=Ca (B:=[]) (w:=w) hA;rw[aU]at this;rw[this];unfold fT;split<;>simp
    rw[Gk]at hK;conv=>whnf
    refine bf (by simp) ?_;conv=>whnf
    refine bf (by simp) ?_;conv=>whnf
    refine ae (fun g1=>?_) (fun g1=>?_)
    ·rw[if_pos g1]at hK;conv=>whnf
     exact⟨_,rfl,hK _ _ _ (ah.iV S (by simp))⟩
    ·rw[if_neg (by rw[g1];simp)]at hK;have h3:=px hp r hr;have ZP:A.length+1<=br:=by simp only[br,cM]at*;omega
     conv=>whnf
     refine⟨_,S.row 0 rfl,⟨by simp,by simp,by simp⟩,?_⟩;conv=>whnf
     refine⟨trivial,?_⟩;conv=>whnf
     refine⟨[],sn (S.row 0 rfl) (by simp;omega) (by simp),rfl,?_⟩;refine .inl ⟨rfl,?_⟩;conv=>whnf
     refine⟨_,S.row 0 rfl,⟨by simp,by simp,by simp⟩,?_⟩;conv=>whnf
     refine ek S h3 rfl (oR (Kh _ ((S.drop 0).drop 0))) fun Q q3 F3 o3 S3=>?_;clear S;have S:=S3;clear S3;conv=>whnf
     refine dE o3.cell.1 ?_;conv=>whnf
     intro nM nN de dg;replace S:=S.alloc de dg;conv=>whnf
     refine⟨trivial,?_⟩;conv=>whnf
     refine⟨[_],bG (S.row 0 rfl),ef rfl (bC o3.cell.2 rfl),?_⟩;replace S:=S.drop 0;dsimp only[List.eraseIdx]at S;replace S:=S.q1;refine lP S (by simp;omega) (by simp;omega) fun k4 c4 S4=>?_;clear S;rw[List.take_of_length_le (by simp;omega)]at S4;have S:ah c4 (.row k4 (.arr 2 (vs++[af.agg [Q,i64 w]]))::_):=S4;clear S4;conv=>whnf
     refine⟨trivial,?_⟩;conv=>whnf
     refine⟨[],rfl,rfl,?_⟩;refine lP S (by simp;omega) (by simp;omega) fun k5 c5 S5=>?_;clear S;rw[List.take_of_length_le (by simp;omega),aU]at S5;have S6:=S5.front 1 rfl;dsimp only[List.eraseIdx]at S6;have S7:=(qh (w:=w) S6).front 2 rfl;dsimp only[List.eraseIdx]at S7;have S8:=(ah.snoc S7.swap).swap;conv=>whnf
     exact⟨_,rfl,hK _ _ _ (by rw[bd];exact ah.iV S8 (by simp))⟩
   |cons b B=>
    simp only[aJ]at hj;obtain⟨VA,P,VB,F0,G,F2,rfl,W1,S1⟩:=ah.Uo S.swap;replace S1:=(S1.front 3 rfl);dsimp only[List.eraseIdx]at S1;have hP:bP hq (gq.d b.row) P G:=S1.get 2 rfl;have hbr:=hz b (by simp);have I5:0+((j:Nat):Int).toNat=VA.length:=by rw[W1,Ya];simp
    have h1:=(zQ hp b.row r hbr hr).here (args:=[P,rv]) (jI (gq.snap hP) vE) rfl rfl;have h2:=(qj hp b.row r hbr hr).here (args:=[P,rv]) (jI (gq.snap hP) vE) rfl rfl;have hlen:(A++b::B).length=j+(B.length+1):=by simp[Ya]
    have ZP:j+(B.length+1)+1<=br:=by rw[<-hlen];simp only[br,cM]at*;omega
    have Gk:eg b.row r=false->fT (A++b::B) r w=if eS b.row r then(if j8 b.w w==0 then A++B else A++⟨b.row,j8 b.w w⟩::B)else if w==0 then A++b::B else A++⟨r,w⟩::b::B:=fun hb=>by
     rw[Ca hA];unfold fT;rw[if_neg (by rw[hb];simp)]
     repeat' split
     all_goals rfl
    conv=>whnf
    refine eZ (by simp;omega) ?_;conv=>whnf
    refine⟨_,S.row 0 rfl,⟨by omega,by omega⟩,?_⟩;conv=>whnf
    refine .inr ⟨_,_,_,S.row 0 rfl,zH I5,?_⟩;conv=>whnf
    refine⟨_,h1,?_⟩;conv=>whnf
    refine ae (fun g1=>?_) (fun g1=>?_)
    ·conv=>whnf
     exact⟨m-1,by omega,j+1,A++[b],B,by omega,aQ j fw,rfl,by simp,by simp[Ya],fun x hx=>by
      rcases bu.1 hx with hx|hx
      ·exact hA x hx
      ·simp at hx;subst hx;exact g1⟩
    ·rw[Gk g1]at hK;clear Gk S;have S:=S1;clear S1;conv=>whnf
     refine eZ (by simp;omega) ?_;conv=>whnf
     refine⟨_,S.row 0 rfl,⟨by omega,by omega⟩,?_⟩;conv=>whnf
     refine .inr ⟨_,_,_,S.row 0 rfl,zH I5,?_⟩;conv=>whnf
     refine⟨_,h2,?_⟩;conv=>whnf
     refine ae (fun g2=>?_) (fun g2=>?_)
     ·rw[if_pos g2]at hK;conv=>whnf
      refine⟨_,S.row 0 rfl,⟨by omega,by omega⟩,?_⟩;conv=>whnf
      refine .inr ⟨_,_,_,S.row 0 rfl,zH I5,?_⟩;conv=>whnf
      refine⟨_,S.row 0 rfl,⟨by omega,by omega⟩,?_⟩;conv=>whnf
      refine⟨_,rfl,rfl,rfl,.inr ⟨_,_,_,S.row 0 rfl,zH I5,?_⟩⟩;conv=>whnf
      intro c1 qO;replace S:=S.setRow 0 (e':=(.agg [P,i64 (j8 b.w w)])) rfl I5 qO;clear qO;dsimp only[List.set]at S;conv=>whnf
      refine⟨_,S.row 0 rfl,⟨by omega,by omega⟩,?_⟩;conv=>whnf
      refine .inr ⟨_,_,_,S.row 0 rfl,zH I5,?_⟩;conv=>whnf
      refine ae (fun g3=>?_) (fun g3=>?_)
      ·rw[if_pos g3]at hK;have hw:IntKind.i64.wrap (((j:Nat):Int)+1)=(j:Int)+1:=by rw[aY];omega
       have Pq:VB.all (hU 2)=true:=Po (S.get 3 rfl:bZ c1 (B.map Item.d) VB F2);have hVl:VB.length=B.length:=by have:=gb (S.get 3 rfl:bZ c1 (B.map Item.d) VB F2);simpa using this
       conv=>whnf
       refine⟨_,S.row 0 rfl,⟨by simp,by simp,by simp;omega⟩,?_⟩;conv=>whnf
       refine⟨_,S.row 0 rfl,⟨by rw[hw];simp;omega,by rw[hw];simp;omega,by simp⟩,?_⟩;conv=>whnf
       refine⟨trivial,?_⟩;conv=>whnf
       refine⟨VB,sn (S.row 0 rfl) (by rw[hw];simp;omega) ?_,Pq,?_⟩
       ·rw[hw];rw[show 0+((some ((j:Int)+1)).getD 0).toNat=VA.length+1 by simp;omega,show VA++af.agg [P,i64 (j8 b.w w)]::VB=(VA++[af.agg [P,i64 (j8 b.w w)]])++VB by simp,List.drop_left' (by simp)];rw[List.take_of_length_le];simp;omega
       refine lP S (by simp;omega) (by simp;omega) fun k c2 S2=>?_;conv=>whnf
       rw[show(VA++af.agg [P,i64 (j8 b.w w)]::VB).take (((some ((j:Nat):Int)).getD ((A++b::B).length:Nat)).toNat-((none:Option Int).getD 0).toNat)=VA by
        rw[show((some ((j:Nat):Int)).getD ((A++b::B).length:Nat)).toNat-((none:Option Int).getD 0).toNat=VA.length by simp;omega,List.take_left]]at S2
       have S3:=((S2.drop 2).front 2 rfl).front 2 rfl;dsimp only[List.eraseIdx]at S3;have S4:=(ah.KL S3).swap;rw[<-bd]at S4;exact⟨_,rfl,hK _ _ _ (ah.iV S4 (by simp;omega))⟩
      ·rw[if_neg (by rw[g3];simp)]at hK;conv=>whnf
       have S2:=((S.front 3 rfl).front 3 rfl).front 3 rfl;dsimp only[List.eraseIdx]at S2;obtain⟨F3,S3⟩:=ah.I4 (w:=j8 b.w w) S2;exact⟨_,rfl,hK _ _ _ (ah.iV S3.swap (by simp))⟩
     ·rw[if_neg (by rw[g2];simp)]at hK;conv=>whnf
      refine ae (fun g3=>?_) (fun g3=>?_)
      ·rw[if_pos g3]at hK;conv=>whnf
       have S2:=((S.front 3 rfl).front 3 rfl).front 3 rfl;dsimp only[List.eraseIdx]at S2;obtain⟨F3,S3⟩:=ah.I4 (w:=b.w) S2;exact⟨_,rfl,hK _ _ _ (ah.iV S3.swap (by simp))⟩
      ·rw[if_neg (by rw[g3];simp)]at hK;have Pq:VB.all (hU 2)=true:=Po (S.get 3 rfl:bZ hq (B.map Item.d) VB F2);have hVl:VB.length=B.length:=by have:=gb (S.get 3 rfl:bZ hq (B.map Item.d) VB F2);simpa using this
       have heb:hU 2 (.agg [P,i64 b.w])=true:=by
        have:=ef (cs:=[P,i64 b.w]) (sz:=2) rfl (bC hP.cell.2 rfl)
        rwa [List.all_cons,List.all_nil,Bool.and_true]at this
       have hEB:(af.agg [P,i64 b.w]::VB).all (hU 2)=true:=by rw[List.all_cons,heb,Pq];rfl
       have h3:=px hp r hr;conv=>whnf
       refine⟨_,S.row 0 rfl,⟨by simp,by simp;omega,by simp⟩,?_⟩;conv=>whnf
       refine⟨trivial,?_⟩;conv=>whnf
       refine⟨af.agg [P,i64 b.w]::VB,sn (S.row 0 rfl) (by simp;omega) ?_,hEB,?_⟩
       ·rw[show 0+((some ((j:Nat):Int)).getD 0).toNat=VA.length by simp;omega,List.drop_left,List.take_of_length_le];simp;omega
       refine m7 S (by simp) (by simp;omega) fun k2 c2 S2=>?_;clear S;have S:ah c2 (.row k2 (.arr 2 (af.agg [P,i64 b.w]::VB))::_):=S2;clear S2;conv=>whnf
       refine⟨_,S.row 1 rfl,⟨by simp,by simp,by simp;omega⟩,?_⟩;conv=>whnf
       refine ek S h3 rfl (oR (Kh _ (((((S.drop 0).drop 0).drop 0).drop 0).drop 0))) fun Q q3 F3 o3 S3=>?_;clear S;have S:=S3;clear S3;conv=>whnf
       refine dE o3.cell.1 ?_;conv=>whnf
       intro nM nN de dg;replace S:=S.alloc de dg;conv=>whnf
       refine⟨trivial,?_⟩;conv=>whnf
       refine⟨[_],bG (S.row 0 rfl),ef rfl (bC o3.cell.2 rfl),?_⟩;replace S:=S.drop 0;dsimp only[List.eraseIdx]at S;replace S:=S.q2;refine lP S (by simp;omega) (by simp;omega) fun k4 c4 S4=>?_;clear S
       rw[show(VA++af.agg [P,i64 b.w]::VB).take (((some ((j:Nat):Int)).getD ((A++b::B).length:Nat)).toNat-((none:Option Int).getD 0).toNat)=VA by
        rw[show((some ((j:Nat):Int)).getD ((A++b::B).length:Nat)).toNat-((none:Option Int).getD 0).toNat=VA.length by simp;omega,List.take_left]]at S4
       have S:ah c4 (.row k4 (.arr 2 (VA++[af.agg [Q,i64 w]]))::_):=S4;clear S4;conv=>whnf
       refine⟨trivial,?_⟩;conv=>whnf
       refine⟨af.agg [P,i64 b.w]::VB,sn (S.row 2 rfl) (by simp) (by simp),hEB,?_⟩;refine lP S (by simp;omega) (by simp;omega) fun k5 c5 S5=>?_;clear S;rw[List.take_of_length_le (by simp;omega),List.append_assoc]at S5;have S6:=(S5.drop 2).front 3 rfl;dsimp only[List.eraseIdx]at S6;have S7:=S6.is (c':=.cU b.d (.agg [P,i64 b.w]) (G++[])) (gx.2 ⟨_,rfl,iF (S6.get 0 rfl) (ee gE)⟩) (by simp[Chunk.cU]);have S8:=ah.Pp (S7.front 4 rfl).swap;dsimp only[List.eraseIdx]at S8;have S9:=(S8.front 2 rfl).front 3 rfl;dsimp only[List.eraseIdx]at S9;obtain⟨F9,S10⟩:=ah.I4 (B:=b::B) (w:=w) S9;conv=>whnf
       exact⟨_,rfl,hK _ _ _ (ah.iV S10.swap (by simp;omega))⟩
theorem Mj(hp:bV pr)(r:List Int)(w:Int)(rv:af)(hr:r.length<=cM){h:aC}{L:List Chunk}(S:ah h L)(Kh: ∀h',ah h' L->Am.snap h' rv=some (.sl (r.map i64))){K:dz->Prop}
  (hK: ∀v' h' F',ah h' (.iA 2 ((fT [] r w).map Item.d) v' F'::L)->K (.ret v' h')):Fe (du pr) 87 [.nil,rv,i64 w] h K:=by
   have h3:=px hp r hr;unfold fT at hK;conv=>whnf
   refine jl ?_;conv=>whnf
   refine ae (fun g1=>?_) (fun g1=>?_)
   ·rw[if_pos g1]at hK;conv=>whnf
    exact⟨_,rfl,hK _ _ _ (ah.j7 2 S)⟩
   ·rw[if_neg (by rw[g1];simp)]at hK;conv=>whnf
    refine⟨⟨rfl,rfl⟩,?_⟩;conv=>whnf
    refine⟨trivial,?_⟩;conv=>whnf
    refine⟨[],rfl,rfl,?_⟩;refine .inl ⟨rfl,?_⟩;conv=>whnf
    refine⟨⟨rfl,rfl⟩,?_⟩;conv=>whnf
    refine ek S h3 rfl (oR (Kh _ S)) fun Q q3 F3 o3 S3=>?_;clear S;have S:=S3;clear S3;conv=>whnf
    refine dE o3.cell.1 ?_;conv=>whnf
    intro nM nN de dg;replace S:=S.alloc de dg;conv=>whnf
    refine⟨trivial,?_⟩;conv=>whnf
    refine⟨[_],bG (S.row 0 rfl),ef rfl (bC o3.cell.2 rfl),?_⟩;replace S:=S.drop 0;dsimp only[List.eraseIdx]at S;refine jM (sz:=2) ((ah.j7 2 (qh (w:=w) S))) (by simp[br]) fun k4 c4 F4 S4=>?_;clear S;have S:=S4;clear S4;conv=>whnf
    refine⟨trivial,?_⟩;conv=>whnf
    refine⟨[],rfl,rfl,?_⟩;rcases ah.uK S with⟨g1,_,_⟩|⟨id,vs,Fs,he,S5⟩
    ·simp at g1
    ·cases he
     have wh:vs.length=1:=by have:=gb (S5.get 1 rfl);simpa using this
     refine lP S5 (by simp;omega) (by simp[br]) fun k5 c5 S6=>?_;rw[List.take_of_length_le (by simp;omega),aU]at S6;conv=>whnf
     exact⟨_,rfl,hK _ _ _ (ah.iV (xs:=[Item.d ⟨r,w⟩]) S6 (by simp))⟩
include hp in
theorem kG(z:List Item)(r:List Int)(w:Int)(rv:af)(hl:z.length<=cM)(hz: ∀x∈z,x.row.length<=cM)(hr:r.length<=cM){v:af}{F:List Nat}{h:aC}{L:List Chunk}
  (S:ah h (.iA 2 (z.map Item.d) v F::L)) (Kh: ∀h',ah h' L->Am.snap h' rv=some (.sl (r.map i64))) {K:dz->Prop}
  (hK: ∀v' h' F',ah h' (.iA 2 ((fT z r w).map Item.d) v' F'::L)->K (.ret v' h')): ∃x,bN (du pr) (call (du pr)) 87 [v,rv,i64 w] h=some x/\K x:=by
   rw[mh rfl];rcases ah.uK S with⟨g1,rfl,S1⟩|⟨id,vs,Fs,rfl,S1⟩
   ·have:z=[]:=List.map_eq_nil_iff.1 g1;subst this;exact lq (hp.out _ rfl) (Mj hp r w rv hr S1 Kh hK)
   ·rw[aO];exact lq (hp.out _ rfl) (Mi hp z r w rv hl hz hr S1 Kh hK)
end Go.Proofs.YtfepbikckfehlaaGreat
set_option maxHeartbeats 4000000
namespace Go.Am
open Go
abbrev gB:=List (Nat×af)
def KM:gB->Nat->Option af
 | [],_=>none
 |(d,v)::l,k=>match Nat.decEq k d with
  |isTrue _=>some v
  |isFalse _=>KM l k
def uR(base:Nat->af)(l:gB):Nat->af:=fun k=>match KM l k with
 |some v=>v
 |none=>base k
theorem Gl(base:Nat->af)(l:gB)(d:Nat)(v:af):uR base ((d,v)::l)=eU (uR base l) d v:=by
 funext k
 unfold uR eU;simp only[KM]
 cases hd:Nat.decEq k d with
 |isTrue e=>simp only[e,if_true]
 |isFalse n=>simp only[if_neg n]
def qk(tm:Nat->af):gB->Prop
 | []=>True
 |p::l=>tm p.1=p.2/\qk tm l
theorem wu{tm:Nat->af}: ∀{l:gB},qk tm l->uR tm l=tm
 | [],_=>rfl
 |p::l,h=>by
  obtain⟨d,v⟩:=p;rw[Gl,wu h.2]
  funext k
  unfold eU;split
  ·rename_i e;subst e;exact h.1.symm
  ·rfl
theorem qk.cons{tm:Nat->af}{k:Nat}{v:af}{l:gB}(h:tm k=v)(hl:qk tm l):qk tm ((k,v)::l):=⟨h,hl⟩
theorem qk.nil{tm:Nat->af}:qk tm []:=trivial
inductive np where
 |norm (b:Nat->af) (l:gB) (h:aC)
 |exit (id:Nat) (b:Nat->af) (l:gB) (h:aC)
 |ret (b:Nat->af) (l:gB) (h:aC)
 |iK (v:af) (h:aC)
def np.out:np->Out
 | .norm b l h=>.norm ⟨uR b l,h⟩
 | .exit id b l h=>.exit id ⟨uR b l,h⟩
 | .ret b l h=>.ret ⟨uR b l,h⟩
 | .iK v h=>.iK v h
def Bk(l:gB)(d:Option Nat)(v:af)(K:gB->Prop):Prop:=match d with
 |some d=>K ((d,v)::l)
 |none=>K l
theorem Cb{base:Nat->af}{l:gB}{d:Option Nat}{v:af}{K:gB->Prop}(h:Bk l d v K): ∃l',uR base l'=iN (uR base l) d v/\K l':=by
 cases d with
 |none=>exact⟨l,rfl,h⟩
 |some d=>exact⟨_,Gl base l d v,h⟩
def Up:Op->Option Nat
 | .move (.tmp t)=>some t
 | .assign (.tmp t)=>some t
 |_=>none
theorem Pr{cf:dS}{tm:Nat->af}{h:aC}{o:Op}{t:Nat}(hf:Up o=some t):rB o=false/\aT cf tm h o=some (.val (tm t) h):=by
 unfold Up at hf;split at hf
 ·cases hf;exact⟨rfl,rfl⟩
 ·cases hf;exact⟨rfl,rfl⟩
 ·cases hf
def Uq(base:Nat->af)(l:gB)(t:Nat)(K:af->Prop):Prop:=match KM l t with
 |some v=>K v
 |none=>K (base t)
theorem Mk{base:Nat->af}{l:gB}{t:Nat}{K:af->Prop}(h:Uq base l t K):K (uR base l t):=by
 unfold Uq at h;unfold uR;split<;>simp_all
def ZQ(P:Program)(t:TypeId)(r:dz)(K:af->aC->Prop)(Q:np->Prop):Prop:=match r with
 | .ret v h=>E9 P t v (K · h)
 | .iK v h=>Q (.iK v h)
def RM(cf:dS)(d:Bool)(o:Oper)(base:Nat->af)(l:gB)(hp:aC)(K:gB->aC->Prop)(Q:np->Prop):Prop:=
 match rB o.op with
 |true=>match aT cf (uR base l) hp o.op with
  |some (.call f args)=>match d&&(ya o.op&& !re (cf.M f))with
   |true=>False
   |false=>∃r,bN cf (call cf) f args hp=some r/\ZQ cf.P o.type r (fun v h=>Bk l o.dst v fun l=>K l h) Q
  |some (.iK v)=>Q (.iK v hp)
  |_=>False
 |false=>match Up o.op with
  |some t=>Uq base l t fun v=>E9 cf.P o.type v fun v=>Bk l o.dst v fun l=>K l hp
  |none=>Rj cf (uR base l) hp o.op fun v h=>E9 cf.P o.type v fun v=>Bk l o.dst v fun l=>K l h
def KN(cf:dS)(d:Bool)(ops:Array Oper)(o:Oper)(n:Nat)(base:Nat->af)(K:gB->aC->Prop)(l:gB)(hp:aC):Prop:=match d&&vI cf.M o.op with
 |false=>K l hp
 |true=>match l7 (((lI ops.toList [])[ops.size-n-1]?).getD 0) (ops.toList.take (ops.size-n-1)) 0 with
  |false=>K l hp
  |true=>md cf ⟨uR base l,hp⟩ (((lI ops.toList [])[ops.size-n-1]?).getD 0) (ops.toList.take (ops.size-n-1)) 0/\K l hp
def I6(cf:dS)(d:Bool)(ops:Array Oper)(Q:np->Prop)(base:Nat->af):List Oper->gB->aC->Prop
 | [],l,hp=>Q (.norm base l hp)
 |o::rest,l,hp=>match dP ops o (uR base l)with
  |none=>RM cf d o base l hp (KN cf d ops o rest.length base (I6 cf d ops Q base rest)) Q
  |some t=>qa t (RM cf d o base l hp (KN cf d ops o rest.length base (I6 cf d ops Q base rest)) Q) (Bk l o.dst (.dX []) fun l=>I6 cf d ops Q base rest l hp)
def zR(cf:dS):Code->(np->Prop)->(Nat->af)->gB->aC->Prop
 | .skip,Q,b,l,h=>Q (.norm b l h)
 | .region id ops d,Q,b,l,h=>OB cf.pm id ops d fun ops=>I6 cf d ops (fun o=>match d,o with
   |true,.norm b l h=>Q (.norm b l h)
   |true,_=>False
   |false,o=>Q o) b ops.toList l h
 | .seq x y,Q,b,l,h=>zR cf x (fun o=>match o with
  | .norm b l h=>zR cf y Q b l h
  |o=>Q o) b l h
 | .cond c x y,Q,b,l,h=>match ev cf.G (uR b l) c with
  |some (.bool t)=>qa t (zR cf x Q b l h) (zR cf y Q b l h)
  |_=>False
 | .block id c,Q,b,l,h=>zR cf c (fun o=>match o with
  | .exit j b l h=>match Nat.decEq j id with
   |isTrue _=>Q (.norm b l h)
   |isFalse _=>Q (.exit j b l h)
  |o=>Q o) b l h
 | .loop c,Q,b,l,h=>∃o,gY cf c ⟨uR b l,h⟩=some (np.out o)/\Q o
 | .exit id,Q,b,l,h=>Q (.exit id b l h)
 | .scope c,Q,b,l,h=>zR cf c Q b l h
 | .label _,Q,b,l,h=>Q (.norm b l h)
 | .ret,Q,b,l,h=>Q (.ret b l h)
 |_,_,_,_,_=>False
def KO:Nat->List af->gB
 |_,[]=>[]
 |k,a::xs=>(k,a)::KO (k+1) xs
theorem xA{tm:Nat->af}: ∀(xs:List af)(k:Nat),(∀i a,xs[i]?=some a->tm (k+i)=a)->qk tm (KO k xs)
 | [],_,_=>trivial
 |a::xs,k,h=>⟨h 0 a rfl,xA xs (k+1) fun i b hb=>by rw[show k+1+i=k+(i+1) by omega];exact h (i+1) b (by simpa using hb)⟩
theorem Gm(xs:List af):uR (ko xs) (KO 0 xs)=ko xs:=wu (xA xs 0 fun i a h=>by unfold ko;rw[bg,h];rfl)
def wv(cf:dS)(f:FuncId)(args:List af)(h:aC)(Q:dz->Prop):Prop:=
 match cf.P.funcs[f]? with
 |some fn=>match fn.body with
  |some c=>zR cf c (fun o=>∃r,oZ cf.P fn (some o.out)=some r/\Q r) (ko args) (KO 0 args) h
  |none=>False
 |none=>False
section
variable{cf:dS}
theorem zS{d:Bool}{o:Oper}{base:Nat->af}{l:gB}{hp:aC}{K:gB->aC->Prop}{K':St->Option Out}{Q:np->Prop}(hK: ∀l hp,K l hp-> ∃r,K' ⟨uR base l,hp⟩=some (np.out r)/\Q r)(hw:RM cf d o base l hp K Q):
  ∃r,eJ cf (call cf) d o ⟨uR base l,hp⟩ K'=some (np.out r)/\Q r:=by
   have Gk: ∀(v:af)(h:aC),Bk l o.dst v (fun l=>K l h)-> ∃r,K' ⟨iN (uR base l) o.dst v,h⟩=some (np.out r)/\Q r:=fun v h hh=>by
    obtain⟨l',e,hk⟩:=Cb (base:=base) (K:=fun l=>K l h) hh;rw[<-e];exact hK l' h hk
   unfold RM at hw;split at hw
   ·split at hw
    ·rename_i f args hv;split at hw
     ·exact hw.elim
     ·rename_i hg;obtain⟨r,hr,hw⟩:=hw
      cases r with
      |ret v h=>
       obtain⟨r,h1,h2⟩:=Gk v h (ph (K:=fun v=>Bk l o.dst v fun l=>K l h) hw)
       exact⟨r,by unfold eJ;simp only[hv,hg,hr];exact h1,h2⟩
      |iK v h=>exact⟨.iK v h,by unfold eJ;simp only[hv,hg,hr];rfl,hw⟩
    ·rename_i v hv;exact⟨.iK v hp,by unfold eJ;simp only[hv];rfl,hw⟩
    ·exact hw.elim
   ·split at hw
    ·rename_i t ht;obtain⟨r,h1,h2⟩:=Gk _ hp (ph (K:=fun v=>Bk l o.dst v fun l=>K l hp) (Mk (K:=fun v=>E9 cf.P o.type v fun v=>Bk l o.dst v fun l=>K l hp) hw));have hv:=(Pr (cf:=cf) (tm:=uR base l) (h:=hp) ht).2;exact⟨r,by unfold eJ;simp only[hv];exact h1,h2⟩
    ·obtain⟨v,h',hv,hk⟩:=zz hw;obtain⟨r,h1,h2⟩:=Gk v h' (ph (K:=fun v=>Bk l o.dst v fun l=>K l h') hk);exact⟨r,by unfold eJ;simp only[hv];exact h1,h2⟩
theorem xB{d:Bool}{ops:Array Oper}{o:Oper}{n:Nat}{base:Nat->af}{K:gB->aC->Prop}{K':St->Option Out}{Q:np->Prop}(hK: ∀l hp,K l hp-> ∃r,K' ⟨uR base l,hp⟩=some (np.out r)/\Q r)(l:gB)(hp:aC)
  (h:KN cf d ops o n base K l hp): ∃r,kX cf d ops o n K' ⟨uR base l,hp⟩=some (np.out r)/\Q r:=by
   unfold KN at h;unfold kX;split at h
   ·rename_i hc;simp only[hc];exact hK l hp h
   ·rename_i hc;simp only[hc];split at h
    ·rename_i hq;simp only[hq];exact hK l hp h
    ·rename_i hq;simp only[hq];unfold Bu;rw[if_pos h.1];exact hK l hp h.2
theorem I7{d:Bool}{ops:Array Oper}{Q:np->Prop}{base:Nat->af}: ∀(r:List Oper)(l:gB)(hp:aC),I6 cf d ops Q base r l hp-> ∃o,jh cf (call cf) d ops r ⟨uR base l,hp⟩=some (np.out o)/\Q o:=by
 intro r
 induction r with
 |nil=>intro l hp h;exact⟨_,rfl,h⟩
 |cons o rest ih=>
  intro l hp h;unfold I6 at h;simp only[jh]
  cases hg:dP ops o (uR base l)with
  |none=>simp only[hg]at h⊢;exact zS (fun l hp=>xB ih l hp) h
  |some t=>
   simp only[hg]at h⊢;rcases eP h with⟨rfl,h⟩|⟨rfl,h⟩
   ·obtain⟨r,h1,h2⟩:=zS (fun l hp=>xB ih l hp) h
    by_cases hp:jD o.op=true
    ·rw[if_pos hp];obtain⟨v,hv,hk⟩:=tq hp h1;have hk:=(kn hk).1;exact⟨r,by simp only[Ej,hv];exact hk,h2⟩
    ·rw[if_neg hp];exact⟨r,h1,h2⟩
   ·obtain⟨l',e,hk⟩:=Cb (base:=base) (K:=fun l=>I6 cf d ops Q base rest l hp) h;obtain⟨r,h1,h2⟩:=ih _ _ hk;rw[e]at h1
    by_cases hp:jD o.op=true
    ·rw[if_pos hp];exact⟨r,h1,h2⟩
    ·rw[if_neg hp];exact⟨r,h1,h2⟩
theorem zU: ∀(c:Code)(Q:np->Prop)(b:Nat->af)(l:gB)(h:aC),zR cf c Q b l h-> ∃o,bW cf (call cf) (gY cf) c ⟨uR b l,h⟩=some (np.out o)/\Q o:=by
 intro c
 induction c with
 |skip=>intro Q b l h hw;exact⟨_,rfl,hw⟩
 |region id ops d=>
  intro Q b l h hw;simp only[zR]at hw;replace hw:=vW hw;obtain⟨o,ho,hq⟩:=I7 _ _ _ hw;refine⟨o,?_,?_⟩
  ·simp only[bW,ho]
   cases d with
   |false=>rfl
   |true=>cases o<;>first|rfl|exact hq.elim
  ·cases d with
   |false=>cases o<;>exact hq
   |true=>cases o<;>first|exact hq|exact hq.elim
 |seq x y rf rh=>
  intro Q b l h hw;obtain⟨o,ho,hw⟩:=rf _ _ _ _ hw;simp only[bW,ho]
  cases o with
  |norm b l h=>exact rh _ _ _ _ hw
  |exit j b l h=>exact⟨_,rfl,hw⟩
  |ret b l h=>exact⟨_,rfl,hw⟩
  |iK v hp=>exact⟨_,rfl,hw⟩
 |cond c x y rf rh=>
  intro Q b l h hw;simp only[zR]at hw;split at hw
  ·rename_i t ht;simp only[bW,ht];rcases eP hw with⟨rfl,hw⟩|⟨rfl,hw⟩
   ·exact rf _ _ _ _ hw
   ·exact rh _ _ _ _ hw
  ·exact hw.elim
 |block id c ih=>
  intro Q b l h hw;obtain⟨o,ho,hw⟩:=ih _ _ _ _ hw;simp only[bW,ho]
  cases o with
  |norm b l h=>exact⟨_,rfl,hw⟩
  |exit j b l h=>
   simp only at hw
   by_cases e:j=id
   ·cases hd:Nat.decEq j id with
    |isTrue _=>simp only[hd]at hw;exact⟨.norm b l h,by simp only[np.out,if_pos e],hw⟩
    |isFalse n=>exact(n e).elim
   ·cases hd:Nat.decEq j id with
    |isTrue y=>exact(e y).elim
    |isFalse n=>simp only[hd]at hw;exact⟨.exit j b l h,by simp only[np.out,if_neg e],hw⟩
  |ret b l h=>exact⟨_,rfl,hw⟩
  |iK v hp=>exact⟨_,rfl,hw⟩
 |loop c ih=>intro Q b l h hw;exact hw
 |exit id=>intro Q b l h hw;exact⟨_,rfl,hw⟩
 |scope c ih=>intro Q b l h hw;exact ih _ _ _ _ hw
 |label x=>intro Q b l h hw;exact⟨_,rfl,hw⟩
 |ret=>intro Q b l h hw;exact⟨_,rfl,hw⟩
 |rangeFunc f p a b _ _=>intro Q b l h hw;exact hw.elim
 |goto x=>intro Q b l h hw;exact hw.elim
 |refuse w=>intro Q b l h hw;exact hw.elim
theorem cS{f:FuncId}{args:List af}{h:aC}{Q:dz->Prop}(hp:cf.pr f=none)(hw:wv cf f args h Q): ∃r,call cf f args h=some r/\Q r:=by
 unfold wv at hw;rw[ub];unfold me;simp only[hp];split at hw
 ·rename_i fn hf;simp only[hf];split at hw
  ·rename_i c hc;simp only[hc];obtain⟨o,ho,r,hr,hq⟩:=zU _ _ _ _ _ hw;rw[Gm]at ho;exact⟨r,by rw[ho];exact hr,hq⟩
  ·exact hw.elim
 ·exact hw.elim
theorem dh{c:Code}{Q:np->Prop}{Fg:Nat->af}{Nl:aC}(I:Nat->(Nat->af)->aC->Prop)
  (round: ∀n tm hp,(∀k,(wrote c).contains k=false->tm k=Fg k)->I n tm hp-> ∃l,qk tm l/\zR cf c (fun o=>match o with| .norm b l h=>∃m,m<n/\I m (uR b l) h|o=>Q o) tm l hp):
  ∀n,I n Fg Nl-> ∃o,gY cf c ⟨Fg,Nl⟩=some (np.out o)/\Q o:=by
   have key: ∀n tm hp,f9 (wrote c) Fg tm->I n tm hp-> ∃o,gY cf c ⟨tm,hp⟩=some (np.out o)/\Q o:=by
    intro n
    induction n using Nat.strongRecOn with
    |_ n ih=>
     intro tm hp ha hI;obtain⟨l,hl,hw⟩:=round n tm hp ha hI;obtain⟨o,ho,h⟩:=zU _ _ _ _ _ hw;rw[wu hl]at ho;have hf:=rC (xw cf) c _ _ ho;rw[uc];unfold gG;simp only[ho]
     cases o with
     |norm b l' h'=>
      obtain⟨m,hm,Uc⟩:=h
      exact ih m hm (uR b l') h' (ha.trans hf) Uc
     |exit j b l h=>exact⟨_,rfl,h⟩
     |ret b l h=>exact⟨_,rfl,h⟩
     |iK v hp=>exact⟨_,rfl,h⟩
   exact fun n hI=>key n Fg Nl (f9.refl _ _) hI
end
end Go.Am
set_option maxHeartbeats 4000000
namespace Go.Proofs.YtfepbikckfehlaaGreat
open Go Go.Am
variable{pr:bL}(hp:bV pr)
set_option maxRecDepth 100000
theorem xC(hp:bV pr){f:FuncId}{args:List af}{res:af}(hn:SX f=true)(ha:cj [] args=some args)(hw:wv (du pr) f args [] (fun r=>∃v h,r= .ret v h/\snap h v=some res)):dm pr f args res:=by
 intro h;obtain⟨r,hr,v,h1,rfl,hs⟩:=cS (hp.out f (by unfold SX at hn;simp only[aj]at hn;exact hn.1)) hw;have hm:(du pr).M f= .P:=yv hn;unfold bN;simp only[hm,ha,hr,hs,bh]
theorem lQ{pr:bL}(hp:bV pr){f:FuncId}{args:List af}{d:ba}(hn:plain f=true)(hw:wv (du pr) f args [] (fun r=>∃v h F,r= .ret v h/\bP h d v F/\F.Nodup)):kC pr f args d:=by
 obtain⟨r,hr,v,h,F,rfl,h1,h2⟩:=cS (hp.out f hn) hw;exact⟨v,h,F,hr,h1,h2⟩
theorem fN{pr:bL}(hp:bV pr){f:FuncId}{args:List af}{ds:List ba}(hn:plain f=true)(hw:wv (du pr) f args [] (fun r=>∃vs h F,r= .ret (.dX vs) h/\bZ h ds vs F/\F.Nodup)):lu pr f args ds:=by
 obtain⟨r,hr,vs,h,F,rfl,h1,h2⟩:=cS (hp.out f hn) hw;exact⟨vs,h,F,hr,h1,h2⟩
theorem rJ{pr:bL}(hp:bV pr){f:FuncId}{args:List af}{sz:Nat}{xs:List ba}(hn:plain f=true)(hw:wv (du pr) f args [] (fun r=>∃v h F,r= .ret v h/\qS sz h xs v F/\F.Nodup)):tE pr f args sz xs:=by
 obtain⟨r,hr,v,h,F,rfl,h1,h2⟩:=cS (hp.out f hn) hw;exact⟨v,h,F,hr,h1,h2⟩
theorem Tc{h:aC}{vs ws:List af}(hb:vs=ws)(hs:ws.all af.isScalar=true): ∃r,some (dz.ret (.dX vs) h)=some r/\ ∃v h1,r=dz.ret v h1/\snap h1 v=some (.dX ws):=⟨_,rfl,_,_,rfl,by
 subst hb
 have key: ∀l:List af,l.all af.isScalar=true->cp (bS h 4194303) l=some l:=fun l=>by
  induction l with
  |nil=>intro _;rfl
  |cons x xs ih=>
   intro hl;simp only[List.all_cons,aj]at hl;have hx:bS h 4194303 x=some x:=by cases x<;>first|rfl|(simp[af.isScalar]at hl)
   simp only[cp,hx,ih hl.2]
 show(cp (bS h 4194303) vs).map af.dX=_;rw[key vs hs];rfl⟩
theorem rK{h:aC}{res e:Int×Bool}(he:res=e): ∃r,some (dz.ret (.dX [i64 e.1,.bool e.2]) h)=some r/\ ∃v h1,r=dz.ret v h1/\snap h1 v=some (.dX [i64 res.1,.bool res.2]):=by
 subst he;exact Tc rfl rfl
theorem I8{h:aC}{res:Bool×Bool}{a b:Bool}(he:res=(a,b)): ∃r,some (dz.ret (.dX [.bool a,.bool b]) h)=some r/\ ∃v h1,r=dz.ret v h1/\snap h1 v=some (.dX [.bool res.1,.bool res.2]):=by
 subst he;exact Tc rfl rfl
def A3(r:List Int)(i:Int):Int:=(r[i.toNat]?).getD 0
theorem qm{r:List Int}{i:Int}(h0:0<=i)(h1:i<r.length):(r.map i64)[i.toNat]?=some (i64 (A3 r i)):=by
 have:i.toNat<r.length:=by omega
 simp[A3,this]
def qn(c:Cell)(r:List Int):Int:=if c.aw=1 then A3 r c.a else if c.aw=3 then j8 (A3 r c.a) (A3 r c.b)else c.n
def cellOf(c:Cell)(r:List Int):Int×Bool:=if nh r&&(d9 c r.length&&bE (qn c r))then(qn c r,true)else(0,false)
theorem Ps{c:Cell}{r:List Int}(h:d9 c r.length=true):(c.aw=1∨c.aw=3->0<=c.a/\c.a<r.length)/\(c.aw=3->0<=c.b/\c.b<r.length):=by
 unfold d9 at h;refine⟨fun hk=>?_,fun hk=>?_⟩
 ·rcases hk with hk|hk<;>simp[hk,col]at h<;>omega
 ·simp[hk,col]at h;omega
theorem wx(hp:bV pr)(c:Cell)(r:List Int)(hl:r.length<=cM):dm pr 162 [c.enc,.sl (r.map i64)] (.dX [i64 (cellOf c r).1,.bool (cellOf c r).2]):=by
 have h1:=uP hp r hl;have h2:=sg hp c r.length;have h3:=fun n=>uF hp n;have hi:=@Ps c r;have aN:cellOf c r=cellOf c r:=rfl;conv at aN=>rhs;unfold cellOf
 generalize cellOf c r=res at aN⊢;obtain⟨k,a,b,n⟩:=c;simp only at hi;refine xC hp rfl rfl ?_;have S:ah [] []:=ah.nil [];conv=>whnf
 intro k1 a1 dw dC;replace S:=S.alloc dw dC;conv=>whnf
 refine⟨_,h1 _,?_⟩;conv=>whnf
 refine ae (fun g1=>?_) (fun g1=>?_)
 ·conv=>whnf
  refine aI (S.row 0 rfl) ?_;conv=>whnf
  rw[aO];refine⟨_,h2 _,?_⟩;conv=>whnf
  refine ae (fun g2=>?_) (fun g2=>?_)
  ·obtain⟨Vz,vQ⟩:=hi g2;conv=>whnf
   refine aI (S.row 0 rfl) ?_;conv=>whnf
   refine aI (S.row 0 rfl) ?_;conv=>whnf
   refine ae (fun g3=>?_) (fun g3=>?_)
   ·have g3:k=1:=by simpa using g3
    subst g3;have ha:=qm (Vz (.inl rfl)).1 (Vz (.inl rfl)).2;conv=>whnf
    refine aI (S.row 0 rfl) ?_;conv=>whnf
    refine⟨_,ha,(Vz (.inl rfl)).1,rfl,?_⟩;conv=>whnf
    refine⟨_,h3 _ _,?_⟩;conv=>whnf
    refine ae (fun g4=>?_) (fun g4=>?_)
    ·conv=>whnf
     exact rK (e:=(A3 r a,true)) (by rw[aN];simp[qn,g1,g2,g4])
    ·conv=>whnf
     exact rK (e:=(0,false)) (by rw[aN];simp[qn,g1,g2,g4])
   ·have g3: ¬k=1:=by simpa using g3
    conv=>whnf
    refine ae (fun g5=>?_) (fun g5=>?_)
    ·have g5:k=3:=by simpa using g5
     subst g5;have ha:=qm (Vz (.inr rfl)).1 (Vz (.inr rfl)).2;have hb:=qm (vQ rfl).1 (vQ rfl).2;conv=>whnf
     refine aI (S.row 0 rfl) ?_;conv=>whnf
     refine⟨_,ha,(Vz (.inr rfl)).1,rfl,?_⟩;conv=>whnf
     refine aI (S.row 0 rfl) ?_;conv=>whnf
     refine⟨_,hb,(vQ rfl).1,rfl,?_⟩;conv=>whnf
     refine⟨_,h3 _ _,?_⟩;conv=>whnf
     have hv:qn ⟨3,a,b,n⟩ r=IntKind.i64.wrap (A3 r a+A3 r b):=rfl;refine ae (fun g4=>?_) (fun g4=>?_)
     ·conv=>whnf
      exact rK (e:=(j8 (A3 r a) (A3 r b),true)) (by rw[aN];simp[hv,g1,g2,g4];rfl)
     ·conv=>whnf
      exact rK (e:=(0,false)) (by rw[aN];simp[hv,g1,g2,g4])
    ·have g5: ¬k=3:=by simpa using g5
     have hv:qn ⟨k,a,b,n⟩ r=n:=by simp[qn,g3,g5]
     conv=>whnf
     refine⟨_,h3 _ _,?_⟩;conv=>whnf
     refine ae (fun g4=>?_) (fun g4=>?_)
     ·conv=>whnf
      exact rK (e:=(n,true)) (by rw[aN];simp[hv,g1,g2,g4])
     ·conv=>whnf
      exact rK (e:=(0,false)) (by rw[aN];simp[hv,g1,g2,g4])
  ·conv=>whnf
   exact rK (e:=(0,false)) (by rw[aN];simp[g1,g2])
 ·conv=>whnf
  exact rK (e:=(0,false)) (by rw[aN];simp[g1])
def iX(t:Test)(r:List Int):Bool×Bool:=
 if nh r&&(jG t r.length&&((cellOf t.l r).2&&(cellOf t.r r).2))then
  ((if t.aw=2 then(cellOf t.l r).1==(cellOf t.r r).1 else decide ((cellOf t.l r).1<(cellOf t.r r).1)) != t.no,true)
 else(false,false)
theorem Ml(hp:bV pr)(t:Test)(r:List Int)(hl:r.length<=cM):dm pr 152 [t.enc,.sl (r.map i64)] (.dX [.bool (iX t r).1,.bool (iX t r).2]):=by
 have h1:=uP hp r hl;have h2:=mJ hp t r.length;have h3:=wx hp t.l r hl;have h4:=wx hp t.r r hl;have hv:iX t r=iX t r:=rfl;conv at hv=>rhs;unfold iX
 generalize iX t r=res at hv⊢;generalize cellOf t.l r=u at h3 hv;generalize cellOf t.r r=w at h4 hv;obtain⟨k,no,⟨lk,la,lb,ln⟩,⟨rk,ra,rb,rn⟩⟩:=t;obtain⟨u1,u2⟩:=u;obtain⟨w1,w2⟩:=w;simp only at h3 h4 hv;refine xC hp rfl rfl ?_;have S:ah [] []:=ah.nil [];conv=>whnf
 intro k1 a1 dw dC;replace S:=S.alloc dw dC;conv=>whnf
 refine⟨_,h1 _,?_⟩;conv=>whnf
 refine ae (fun g1=>?_) (fun g1=>?_)
 ·conv=>whnf
  refine aI (S.row 0 rfl) ?_;conv=>whnf
  rw[aO];refine⟨_,h2 _,?_⟩;conv=>whnf
  refine ae (fun g2=>?_) (fun g2=>?_)
  ·conv=>whnf
   refine aI (S.row 0 rfl) ?_;conv=>whnf
   refine⟨_,h3 _,?_⟩
   iterate 14
    all_goals(try(conv=>whnf))
    all_goals(first|(intro ke cg er bn;replace S:=S.alloc er bn)|(refine .inl ⟨_,S.row 0 rfl,rfl,?_⟩)|(refine⟨_,rfl,rfl,rfl,.inl ⟨_,S.row 0 rfl,rfl,?_⟩⟩;(conv=>whnf);intro cg bn;replace S:=S.w0 bn)|(refine ae (fun hb=>?_) (fun hb=>?_))|(refine⟨_,h4 _,?_⟩)|skip)
   all_goals(try(conv=>whnf))
   all_goals exact I8 (by rw[hv];simp_all)
  ·conv=>whnf
   exact I8 (by rw[hv];simp[g1,g2])
 ·conv=>whnf
  exact I8 (by rw[hv];simp[g1])
theorem wz(h:aC)(xs:List Int):Am.snap h (.sl (xs.map i64))=some (.sl (xs.map i64)):=rfl
theorem Mm{a b:List Item}{j:Nat}(h:j<b.length):ct a (b.take (j+1))=fT (ct a (b.take j)) b[j].row b[j].w:=by
 rw[dn h,ct,List.foldl_append];rfl
theorem kH(hp:bV pr)(a b:List Item)(ha:gi a)(hb:gi b)(hl:a.length+b.length<=cM):tE pr 56 [.sl (a.map Item.enc),.sl (b.map Item.enc)] 2 ((ct a b).map Item.d):=by
 have h1:=kF hp a ha;refine Dj hp rfl ?_;have S:ah [] []:=ah.nil [];conv=>whnf
 refine cI S h1 rfl rfl fun v1 q1 F1 S1=>?_;replace S:=S1;clear S1;conv=>whnf
 refine ga (fun m tm hp=>∃(j:Nat)(D:af)(F:List Nat),j+m=b.length/\tm 5=D/\tm 6=i64 (j:Nat)/\ah hp [.iA 2 ((ct a (b.take j)).map Item.d) D F]) (fun m tm hq bz hI=>?_) (b.length) ⟨0,v1,F1,by simp,(by first|rfl|kernel_rfl|simp),(by first|rfl|kernel_rfl|simp),S⟩;obtain⟨j,D,F,hj,e5,e6,S2⟩:=hI;have k1:=bz 1 (by kernel_rfl);conv at k1=>rhs;whnf
 rw[<-aP k1];rw[<-aP e5];rw[<-aP e6];clear bz k1 e5 e6;clear S;have S:=S2;clear S2;conv=>whnf
 have fw:j<4611686018427387904:=by simp[cM]at hl;omega
 refine ae (fun h1=>?_) (fun h1=>?_)
 ·have bq:j<b.length:=by simpa using h1
  have cx:(b.map Item.enc)[((j:Nat):Int).toNat]?=some (Item.enc b[j]):=by rw[aq];simp[bq]
  have sI:=fp (a:=a) (b:=b.take j) ha.2 (fun x hx=>hb.2 x (List.mem_of_mem_take hx));have cY:=Mm (a:=a) bq;have dT:=hb.2 _ (ay bq);generalize b[j]=x at cx cY dT;obtain⟨row,w⟩:=x;conv=>whnf
  refine⟨_,cx,by omega,rfl,?_⟩;conv=>whnf
  refine⟨_,cx,by omega,rfl,?_⟩;conv=>whnf
  refine kG hp _ row w _ (by have:=sI.1;simp at this;omega) sI.2 dT S (fun h' _=>wz h' row) fun v' h' F' S1=>?_;conv=>whnf
  exact⟨m-1,by omega,j+1,_,_,by omega,rfl,aQ j fw,by rw[cY];exact S1⟩
 ·have bq:j=b.length:=by
   have: ¬j<b.length:=by simpa using h1
   omega
  subst bq;rw[aS]at S;conv=>whnf
  exact⟨_,rfl,_,_,_,rfl,S.get 0 rfl,(S.get' 0 _ rfl).2⟩
def gX(bx:List (List Item)):List Item:=bx.foldl ct []
theorem Mn{bx:List (List Item)}{j:Nat}(h:j<bx.length):gX (bx.take (j+1))=ct (gX (bx.take j)) bx[j]:=by
 rw[dn h,gX,List.foldl_append];rfl
theorem uS{bx:List (List Item)}(h: ∀z∈bx,c7 z=true):(gX bx).length<=100*bx.length/\ ∀x∈gX bx,x.row.length<=cM:=by
 have key: ∀(rs:List (List Item))(a:List Item),(∀z∈rs,c7 z=true)->(∀x∈a,x.row.length<=cM)->(rs.foldl ct a).length<=a.length+100*rs.length/\ ∀x∈rs.foldl ct a,x.row.length<=cM:=by
  intro rs
  induction rs with
  |nil=>intro a _ ha;exact⟨by simp,ha⟩
  |cons z zs ih=>
   intro a hz ha;have h1:=cF (hz z (by simp));have h2:=fp ha h1.2;have h3:=(cE (hz z (by simp))).1;obtain⟨h4,h5⟩:=ih (ct a z) (fun y hy=>hz y (by simp[hy])) h2.2;simp only[List.foldl_cons,aJ];exact⟨by omega,h5⟩
 have:=key bx [] h (by simp);unfold gX;exact⟨by simpa using this.1,this.2⟩
theorem uT(hp:bV pr)(bx:List (List Item))(hz: ∀z∈bx,c7 z=true)(hl:bx.length<=1000):tE pr 142 [.agg [bM.enc bx]] 2 ((gX bx).map Item.d):=by
 refine Dj hp rfl ?_;have S:ah [] []:=ah.nil [];conv=>whnf
 intro k1 a1 dw dC;replace S:=S.alloc dw dC;conv=>whnf
 replace S:=ah.j7 2 S;refine ga (fun m tm hp=>∃(j:Nat)(D:af)(F:List Nat),j+m=bx.length/\tm 3=D/\tm 4=i64 (j:Nat)/\ah hp [.iA 2 ((gX (bx.take j)).map Item.d) D F,.row k1 (.box (.agg [bM.enc bx]))]) (fun m tm hq bz hI=>?_) (bx.length) ⟨0,.nil,[],by simp,(by first|rfl|kernel_rfl|simp),(by first|rfl|kernel_rfl|simp),S⟩;obtain⟨j,D,F,hj,e3,e4,S2⟩:=hI;have k1:=bz 1 (by kernel_rfl);conv at k1=>rhs;whnf
 rw[<-aP k1];rw[<-aP e3];rw[<-aP e4];clear bz k1 e3 e4;clear S;have S:=S2;clear S2;conv=>whnf
 have fw:j<4611686018427387904:=by omega
 refine aI (S.row 1 rfl) ?_;conv=>whnf
 refine ae (fun h1=>?_) (fun h1=>?_)
 ·have bq:j<bx.length:=by simpa using h1
  have cx:(bx.map aE.enc)[((j:Nat):Int).toNat]?=some (aE.enc bx[j]):=by rw[aq];simp[bq]
  have cY:=Mn bq;have hx:=hz _ (ay bq);have hs:=uS (bx:=bx.take j) (fun z h=>hz z (List.mem_of_mem_take h));have sU:gi (gX (bx.take j)):=⟨by have:=hs.1;simp[cM]at this⊢;omega,hs.2⟩;have Pt:=kH hp (gX (bx.take j)) bx[j] sU (cF hx) (by have:=hs.1;have:=(cE hx).1;simp[cM]at*;omega);have mY:Am.snap hq D=some (aE.enc (gX (bx.take j))):=aE.fU (show qS _ _ _ _ _ from S.get 0 rfl).1;generalize bx[j]=x at cx cY hx Pt;conv=>whnf
  refine aI (S.row 1 rfl) ?_;conv=>whnf
  refine⟨_,cx,by omega,rfl,?_⟩;conv=>whnf
  refine cI S Pt rfl (jI mY rfl) fun v' h' F' S1=>?_;conv=>whnf
  replace S1:=S1.pick [0,2] (by decide);simp only[kB,List.getElem?_cons_zero,List.getElem?_cons_succ]at S1;exact⟨m-1,by omega,j+1,_,_,by omega,rfl,aQ j fw,by rw[cY];exact S1⟩
 ·have bq:j=bx.length:=by
   have: ¬j<bx.length:=by simpa using h1
   omega
  subst bq;rw[aS]at S;conv=>whnf
  exact⟨_,rfl,_,_,_,rfl,S.get 0 rfl,(S.get' 0 _ rfl).2⟩
def oo:List (List Item)->List (List Item)->Bool
 |_,[]=>true
 |done,z::rest=>(c7 z&& !z.isEmpty)&&((done.isEmpty||c7 (gX (done++[z])))&&oo (done++[z]) rest)
def en(bx:List (List Item)):Bool:=decide (bx.length<=5)&&oo [] bx
theorem Pu{bx:List (List Item)}{j:Nat}(h:j<bx.length):oo (bx.take j) (bx.drop j)=((c7 bx[j]&& !bx[j].isEmpty)&&(((bx.take j).isEmpty||c7 (gX (bx.take (j+1))))&&oo (bx.take (j+1)) (bx.drop (j+1)))):=by
 rw[ar h,dn h];rfl
theorem Mo{done rest:List (List Item)}(h:oo done rest=true): ∀z∈rest,c7 z=true:=by
 induction rest generalizing done with
 |nil=>intro z hz;simp at hz
 |cons y ys ih=>
  simp only[oo,aj]at h;intro z hz;rcases aW.1 hz with rfl|hz
  ·exact h.1.1
  ·exact ih h.2.2 z hz
theorem dD{bx:List (List Item)}(h:en bx=true):bx.length<=5/\ ∀z∈bx,c7 z=true:=by
 simp only[en,aj,decide_eq_true_iff]at h;exact⟨h.1,Mo h.2⟩
def xD(bx:List (List Item)):Prop:=bx.length<=cM/\ ∀z∈bx,gi z
theorem pA(hp:bV pr)(bx:List (List Item))(hr:xD bx):dm pr 127 [.agg [bM.enc bx]] (.bool (en bx)):=by
 obtain⟨hl,hr⟩:=hr;refine ea hp rfl rfl ?_;have S:ah [] []:=ah.nil [];conv=>whnf
 intro k1 a1 dw dC;replace S:=S.alloc dw dC;conv=>whnf
 refine aI (S.row 0 rfl) ?_;conv=>whnf
 refine ae (fun h0=>?_) (fun h0=>?_)
 ·conv=>whnf
  exact bH (by have: ¬bx.length<=5:=by simp at h0;omega
               simp[en,this])
 have h5:bx.length<=5:=by simp at h0;omega
 have hz:en bx=oo [] bx:=by simp[en,h5]
 rw[hz];clear hz h0;conv=>whnf
 refine ga (fun m tm hp=>∃(j:Nat),j+m=bx.length/\tm 3=i64 (j:Nat)/\ah hp [.row k1 (.box (.agg [bM.enc bx]))]/\(oo [] bx=oo (bx.take j) (bx.drop j)/\ ∀z∈bx.take j,c7 z=true)) (fun m tm hq bz hI=>?_) (bx.length) ⟨0,by simp,(by first|rfl|kernel_rfl|simp),S,(⟨rfl,by simp⟩)⟩;obtain⟨j,hj,e3,S2,aD⟩:=hI;have k1:=bz 1 (by kernel_rfl);conv at k1=>rhs;whnf
 rw[<-aP k1];rw[<-aP e3];clear bz k1 e3;clear S;have S:=S2;clear S2;conv=>whnf
 obtain⟨aD,dt⟩:=aD;refine aI (S.row 0 rfl) ?_;conv=>whnf
 refine ae (fun h1=>?_) (fun h1=>?_)
 ·have bq:j<bx.length:=by simpa using h1
  have cx:(bx.map aE.enc)[((j:Nat):Int).toNat]?=some (aE.enc bx[j]):=by rw[aq];simp[bq]
  rw[Pu bq]at aD;have hx:=hr _ (ay bq);have h2:=gu hp bx[j] hx;have tW:=dn bq;have Gn:IntKind.i64.wrap (((j:Nat):Int)+1)=(j:Int)+1:=by rw[aY];omega
  have I9:c7 bx[j]=true-> ∀z∈bx.take (j+1),c7 z=true:=fun h z hz=>by
   rw[tW]at hz;rcases bu.1 hz with hz|hz
   ·exact dt z hz
   ·simp at hz;subst hz;exact h
  have h4:c7 bx[j]=true->tE pr 142 [.agg [.sl (((bx.map aE.enc).drop 0).take (IntKind.i64.wrap (((j:Nat):Int)+1)).toNat)]] 2 ((gX (bx.take (j+1))).map Item.d):=fun h=>by
   rw[Gn,List.drop_zero,<-List.map_take];exact uT hp _ (I9 h) (by simp;omega)
  have h6:c7 bx[j]=true->dm pr 23 [aE.enc (gX (bx.take (j+1)))] (.bool (c7 (gX (bx.take (j+1))))):=fun h=>by
   have:=uS (I9 h);exact gu hp _ ⟨by have h':=this.1;simp at h';simp[cM];omega,this.2⟩
  generalize uh:bx[j]=x at cx h2 aD tW h4 h6 I9;conv=>whnf
  refine aI (S.row 0 rfl) ?_;conv=>whnf
  refine⟨_,cx,by omega,rfl,?_⟩;conv=>whnf
  refine⟨_,h2 _,?_⟩;conv=>whnf
  refine ae (fun h3=>?_) (fun h3=>?_)
  ·replace h4:=h4 h3;replace h6:=h6 h3;replace I9:=I9 h3;clear h2;rw[h3]at aD;conv=>whnf
   refine aI (S.row 0 rfl) ?_;conv=>whnf
   refine⟨_,cx,by omega,rfl,?_⟩;conv=>whnf
   refine ae (fun h7=>?_) (fun h7=>?_)
   ·conv=>whnf
    exact bH (by rw[aD];have:x=[]:=bk.1 (by simpa using h7);subst this;first|done|rfl)
   ·have kY:x.isEmpty=false:=by cases x with|nil=>simp at h7|cons a b=>rfl
    rw[kY]at aD;simp only[Bool.not_false,Bool.and_true,aX]at aD
    cases j with
    |zero=>
     conv=>whnf
     exact⟨m-1,by omega,1,by omega,aQ 0 (by omega),S,by rw[aD];rfl,I9⟩
    |succ i=>
     have Ur:(bx.take (i+1)).isEmpty=false:=by
      cases bx with
      |nil=>simp at bq
      |cons y ys=>rfl
     rw[Ur,Bool.false_or]at aD;conv=>whnf
     refine eZ (by simp<;>omega) ?_;conv=>whnf
     refine aI (S.row 0 rfl) ?_;conv=>whnf
     refine⟨⟨by decide,by rw[Gn];simp;omega,by rw[Gn];simp;omega,by rw[aG];intro y hy;obtain⟨q,_,rfl⟩:=bj.1 hy;rfl⟩,?_⟩;conv=>whnf
     refine cI S h4 rfl rfl fun v' q1 F' S1=>?_;have mY:=aE.fU (show qS _ _ _ _ _ from S1.get 0 rfl).1;conv=>whnf
     refine⟨_,dm.here h6 (oR mY) rfl rfl,?_⟩;replace S:=S1.drop 0;clear S1 mY;conv=>whnf
     refine ae (fun h8=>?_) (fun h8=>?_)
     ·rw[h8,aX]at aD;conv=>whnf
      exact⟨m-1,by omega,i+1+1,by omega,aQ (i+1) (by omega),S,aD,I9⟩
     ·conv=>whnf
      exact bH (by rw[aD,h8];first|done|rfl)
  ·conv=>whnf
   exact bH (by rw[aD,h3];simp)
 ·have bq:j=bx.length:=by
   have: ¬j<bx.length:=by simpa using h1
   omega
  subst bq;rw[aL]at aD;conv=>whnf
  exact bH (by rw[aD];first|done|rfl)
def jP(cA:Int):List Item->List cC->List Item
 |z,[]=>z
 |z,p::ps=>jP cA (if p.cA<=cA then ct z p.out else z) ps
end Go.Proofs.YtfepbikckfehlaaGreat

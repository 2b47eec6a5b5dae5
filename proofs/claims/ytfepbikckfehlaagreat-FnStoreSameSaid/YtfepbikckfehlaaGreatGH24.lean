/- Copies of items. -/
import Derived.Test.YtfepbikckfehlaaGreatGH23
import Derived.Test.YtfepbikckfehlaaGreatGH21
set_option linter.unusedVariables false
set_option linter.unusedSimpArgs false
set_option maxHeartbeats 4000000
namespace Go.Proofs.YtfepbikckfehlaaGreat
open Go Go.Am
variable{pr:bW}(hp:cF pr)
set_option maxRecDepth 100000
def kI(x y:Item):Bool:=x.w==y.w&&fL x.row y.row
def N4:af:=.func (.func 25) [] []
theorem KO(hp:cF pr)(x y:Item)(hx:x.row.length<=dB):dK pr 25 [x.enc,y.enc] (.bool (kI x y)):=by
 have h:=KM hp x.row y.row hx;obtain⟨r,w⟩:=x;obtain⟨r2,w2⟩:=y;refine ff hp rfl rfl ?_;have S:=aj.nil []
 iterate 9
  all_goals(try(conv=>whnf))
  all_goals(first|(intro iK cp ee bf;replace S:=S.alloc ee bf)|(refine aC (S.row 0 rfl) ?_)|(refine aC (S.row 1 rfl) ?_)|(refine aC (S.row 2 rfl) ?_)|(refine aC (S.row 3 rfl) ?_)|(refine aC (S.row 4 rfl) ?_)|(refine⟨_,rfl,rfl,rfl,.inl ⟨_,S.row 0 rfl,rfl,?_⟩⟩;(conv=>whnf);intro cp bf;replace S:=S.w0 bf)|(refine⟨_,rfl,rfl,rfl,.inl ⟨_,S.row 1 rfl,rfl,?_⟩⟩;(conv=>whnf);intro cp bf;replace S:=S.w1 bf)|(refine⟨_,rfl,rfl,rfl,.inl ⟨_,S.row 2 rfl,rfl,?_⟩⟩;(conv=>whnf);intro cp bf;replace S:=S.w2 bf)|(refine⟨_,rfl,rfl,rfl,.inl ⟨_,S.row 3 rfl,rfl,?_⟩⟩;(conv=>whnf);intro cp bf;replace S:=S.w3 bf)|(refine⟨_,rfl,rfl,rfl,.inl ⟨_,S.row 4 rfl,rfl,?_⟩⟩;(conv=>whnf);intro cp bf;replace S:=S.w4 bf)|(refine ae (fun hb=>?_) (fun hb=>?_))|(refine⟨_,h _,?_⟩)|skip)
 all_goals exact br (by clear h hx;simp_all[kI])
theorem Im(hp:cF pr)(xs ys:List Item)(hx:ij xs):dK pr 24 [.sl (xs.map Item.enc),.sl (ys.map Item.enc),N4] (.bool (bZ kI xs ys)):=by
 obtain⟨hl,hr⟩:=hx;refine ff hp rfl rfl ?_;have S:=aj.nil [];conv=>whnf
 refine ae (fun h0=>?_) (fun h0=>?_)
 ·conv=>whnf
  exact br (fg (by simp at h0;omega)).symm
 have hlen:xs.length=ys.length:=by simp at h0;omega
 conv=>whnf
 refine iv (fun m tm hp=>∃(j:Nat),j+m=xs.length/\tm 17=i64 (j:Nat)/\(bZ kI xs ys=bZ kI (xs.drop j) (ys.drop j))) (fun m tm hq bG hI=>?_) (xs.length) ⟨0,by simp,(by first|rfl|kernel_rfl|simp),(rfl)⟩;obtain⟨j,hj,Gg,aF⟩:=hI;have k0:=bG 0 (by kernel_rfl);conv at k0=>rhs;whnf
 rw[<-aR k0];have k1:=bG 1 (by kernel_rfl);conv at k1=>rhs;whnf
 rw[<-aR k1];have k2:=bG 2 (by kernel_rfl);conv at k2=>rhs;whnf
 rw[<-aR k2];have E9:=bG 15 (by kernel_rfl);conv at E9=>rhs;whnf
 rw[<-aR E9];have Fe:=bG 16 (by kernel_rfl);conv at Fe=>rhs;whnf
 rw[<-aR Fe];rw[<-aR Gg];clear bG k0 k1 k2 E9 Fe Gg;have S:aj hq []:=aj.nil hq;conv=>whnf
 refine ae (fun h1=>?_) (fun h1=>?_)
 ·have bp:j<xs.length:=by simpa using h1
  rw[en bp (by omega)]at aF;have g1:(xs.map Item.enc)[((j:Nat):Int).toNat]?=some (Item.enc xs[j]):=by rw[aaa];simp[bp]
  have g2:(ys.map Item.enc)[((j:Nat):Int).toNat]?=some (Item.enc ys[j]):=by rw[aaa];simp[show j<ys.length by omega]
  have h3:=KO hp xs[j] ys[j] (hr _ (aac bp));generalize xs[j]=x at g1 h3 aF;generalize ys[j]=y at g2 h3 aF;obtain⟨r,w⟩:=x;obtain⟨r2,w2⟩:=y;conv=>whnf
  refine⟨_,g1,by omega,rfl,?_⟩
  iterate 4
   all_goals(try(conv=>whnf))
   all_goals(first|(intro iK cp ee bf;replace S:=S.alloc ee bf)|(refine aC (S.row 0 rfl) ?_)|(refine aC (S.row 1 rfl) ?_)|(refine aC (S.row 2 rfl) ?_)|(refine aC (S.row 3 rfl) ?_)|(refine aC (S.row 4 rfl) ?_)|(refine⟨_,rfl,rfl,rfl,.inl ⟨_,S.row 0 rfl,rfl,?_⟩⟩;(conv=>whnf);intro cp bf;replace S:=S.w0 bf)|(refine⟨_,rfl,rfl,rfl,.inl ⟨_,S.row 1 rfl,rfl,?_⟩⟩;(conv=>whnf);intro cp bf;replace S:=S.w1 bf)|(refine⟨_,rfl,rfl,rfl,.inl ⟨_,S.row 2 rfl,rfl,?_⟩⟩;(conv=>whnf);intro cp bf;replace S:=S.w2 bf)|(refine⟨_,rfl,rfl,rfl,.inl ⟨_,S.row 3 rfl,rfl,?_⟩⟩;(conv=>whnf);intro cp bf;replace S:=S.w3 bf)|(refine⟨_,rfl,rfl,rfl,.inl ⟨_,S.row 4 rfl,rfl,?_⟩⟩;(conv=>whnf);intro cp bf;replace S:=S.w4 bf)|(refine ae (fun hb=>?_) (fun hb=>?_))|skip)
  refine⟨_,g2,by omega,rfl,?_⟩
  iterate 6
   all_goals(try(conv=>whnf))
   all_goals(first|(intro iK cp ee bf;replace S:=S.alloc ee bf)|(refine aC (S.row 0 rfl) ?_)|(refine aC (S.row 1 rfl) ?_)|(refine aC (S.row 2 rfl) ?_)|(refine aC (S.row 3 rfl) ?_)|(refine aC (S.row 4 rfl) ?_)|(refine⟨_,rfl,rfl,rfl,.inl ⟨_,S.row 0 rfl,rfl,?_⟩⟩;(conv=>whnf);intro cp bf;replace S:=S.w0 bf)|(refine⟨_,rfl,rfl,rfl,.inl ⟨_,S.row 1 rfl,rfl,?_⟩⟩;(conv=>whnf);intro cp bf;replace S:=S.w1 bf)|(refine⟨_,rfl,rfl,rfl,.inl ⟨_,S.row 2 rfl,rfl,?_⟩⟩;(conv=>whnf);intro cp bf;replace S:=S.w2 bf)|(refine⟨_,rfl,rfl,rfl,.inl ⟨_,S.row 3 rfl,rfl,?_⟩⟩;(conv=>whnf);intro cp bf;replace S:=S.w3 bf)|(refine⟨_,rfl,rfl,rfl,.inl ⟨_,S.row 4 rfl,rfl,?_⟩⟩;(conv=>whnf);intro cp bf;replace S:=S.w4 bf)|(refine ae (fun hb=>?_) (fun hb=>?_))|(refine⟨_,h3 _,?_⟩)|skip)
  all_goals first
   |exact br (by rw[aF,hb];rfl)
   |exact⟨m-1,by omega,j+1,by omega,aP j (by simp[dB]at hl;omega),by rw[aF,hb];rfl⟩
 ·have bp:j=xs.length:=by have: ¬j<xs.length:=by simpa using h1
                          omega
  subst bp;rw[eN hlen]at aF;conv=>whnf
  exact br aF.symm
theorem sZ(hp:cF pr)(xs ys:List Item)(hx:ij xs):dK pr 8 [.sl (xs.map Item.enc),.sl (ys.map Item.enc)] (.bool (bZ kI xs ys)):=by
 have h:=Im hp xs ys hx;refine ff hp rfl rfl ?_;have S:=aj.nil []
 iterate 3
  all_goals(try(conv=>whnf))
  all_goals(first|(intro iK cp ee bf;replace S:=S.alloc ee bf)|(refine aC (S.row 0 rfl) ?_)|(refine aC (S.row 1 rfl) ?_)|(refine aC (S.row 2 rfl) ?_)|(refine aC (S.row 3 rfl) ?_)|(refine aC (S.row 4 rfl) ?_)|(refine⟨_,rfl,rfl,rfl,.inl ⟨_,S.row 0 rfl,rfl,?_⟩⟩;(conv=>whnf);intro cp bf;replace S:=S.w0 bf)|(refine⟨_,rfl,rfl,rfl,.inl ⟨_,S.row 1 rfl,rfl,?_⟩⟩;(conv=>whnf);intro cp bf;replace S:=S.w1 bf)|(refine⟨_,rfl,rfl,rfl,.inl ⟨_,S.row 2 rfl,rfl,?_⟩⟩;(conv=>whnf);intro cp bf;replace S:=S.w2 bf)|(refine⟨_,rfl,rfl,rfl,.inl ⟨_,S.row 3 rfl,rfl,?_⟩⟩;(conv=>whnf);intro cp bf;replace S:=S.w3 bf)|(refine⟨_,rfl,rfl,rfl,.inl ⟨_,S.row 4 rfl,rfl,?_⟩⟩;(conv=>whnf);intro cp bf;replace S:=S.w4 bf)|(refine ae (fun hb=>?_) (fun hb=>?_))|(refine⟨_,h _,?_⟩)|skip)
 all_goals exact br hb.symm
def MG(wide:Int):af:=.func (.func 108) [] [.fQ [i64 wide] 0 0]
theorem N5(hp:cF pr)(wide:Int)(x:Item):dK pr 108 ([x.enc]++[.fQ [i64 wide] 0 0]) (.bool ((@id (Item->Bool) (fun x:Item=>decide ((x.row.length:Int)≠wide))) x)):=by
 obtain⟨r,w⟩:=x;refine ff hp rfl rfl ?_;have S:=aj.nil []
 iterate 6
  all_goals(try(conv=>whnf))
  all_goals(first|(intro iK cp ee bf;replace S:=S.alloc ee bf)|(refine aC (S.row 0 rfl) ?_)|(refine aC (S.row 1 rfl) ?_)|(refine aC (S.row 2 rfl) ?_)|(refine aC (S.row 3 rfl) ?_)|(refine aC (S.row 4 rfl) ?_)|(refine⟨_,rfl,rfl,rfl,.inl ⟨_,S.row 0 rfl,rfl,?_⟩⟩;(conv=>whnf);intro cp bf;replace S:=S.w0 bf)|(refine⟨_,rfl,rfl,rfl,.inl ⟨_,S.row 1 rfl,rfl,?_⟩⟩;(conv=>whnf);intro cp bf;replace S:=S.w1 bf)|(refine⟨_,rfl,rfl,rfl,.inl ⟨_,S.row 2 rfl,rfl,?_⟩⟩;(conv=>whnf);intro cp bf;replace S:=S.w2 bf)|(refine⟨_,rfl,rfl,rfl,.inl ⟨_,S.row 3 rfl,rfl,?_⟩⟩;(conv=>whnf);intro cp bf;replace S:=S.w3 bf)|(refine⟨_,rfl,rfl,rfl,.inl ⟨_,S.row 4 rfl,rfl,?_⟩⟩;(conv=>whnf);intro cp bf;replace S:=S.w4 bf)|(refine ae (fun hb=>?_) (fun hb=>?_))|skip)
 all_goals exact br (by simp_all)
theorem Io(hp:cF pr)(wide:Int)(xs:List Item)(hl:xs.length<=dB):dK pr 129 [.sl (xs.map Item.enc),MG wide] (i64 (oY (fun x:Item=>decide ((x.row.length:Int)≠wide)) 0 xs)):=by
 refine ff hp rfl rfl ?_;have S:=aj.nil [];conv=>whnf
 refine iv (fun m tm hp=>∃(j:Nat),j+m=xs.length/\tm 8=i64 (j:Nat)/\(oY (fun x:Item=>decide ((x.row.length:Int)≠wide)) 0 xs=oY (fun x:Item=>decide ((x.row.length:Int)≠wide)) (j:Nat) (xs.drop j))) (fun m tm hq bG hI=>?_) (xs.length) ⟨0,by simp,(by first|rfl|kernel_rfl|simp),(by simp)⟩;obtain⟨j,hj,e8,aF⟩:=hI;have k0:=bG 0 (by kernel_rfl);conv at k0=>rhs;whnf
 rw[<-aR k0];have k1:=bG 1 (by kernel_rfl);conv at k1=>rhs;whnf
 rw[<-aR k1];have k7:=bG 7 (by kernel_rfl);conv at k7=>rhs;whnf
 rw[<-aR k7];rw[<-aR e8];clear bG k0 k1 k7 e8;have S:aj hq []:=aj.nil hq;conv=>whnf
 refine ae (fun h1=>?_) (fun h1=>?_)
 ·have bp:j<xs.length:=by simpa using h1
  have g1:(xs.map Item.enc)[((j:Nat):Int).toNat]?=some (Item.enc xs[j]):=by rw[aaa];simp[bp]
  have h2:=N5 hp wide xs[j];rw[aaf bp]at aF;have aF:oY (fun x:Item=>decide ((x.row.length:Int)≠wide)) 0 xs=bif (@id (Item->Bool) (fun x:Item=>decide ((x.row.length:Int)≠wide))) xs[j]then((j:Nat):Int)else oY (fun x:Item=>decide ((x.row.length:Int)≠wide)) (((j:Nat):Int)+1) (xs.drop (j+1)):=aF;generalize(@id (Item->Bool) (fun x:Item=>decide ((x.row.length:Int)≠wide))) xs[j]=b at h2 aF;generalize xs[j]=x at g1 h2;obtain⟨r,w⟩:=x;conv=>whnf
  refine⟨_,g1,by omega,rfl,?_⟩;conv=>whnf
  refine⟨_,h2 _,?_⟩;conv=>whnf
  refine ae (fun h3=>?_) (fun h3=>?_)
  ·conv=>whnf
   exact eJ (by rw[aF,h3];rfl)
  ·conv=>whnf
   exact⟨m-1,by omega,j+1,by omega,aP j (by simp[dB]at hl;omega),by rw[aF,h3];rfl⟩
 ·have bp:j=xs.length:=by have: ¬j<xs.length:=by simpa using h1
                          omega
  subst bp;rw[aal]at aF;conv=>whnf
  exact eJ (by rw[aF];rfl)
theorem Ip(hp:cF pr)(wide:Int)(xs:List Item)(hl:xs.length<=dB):dK pr 107 [.sl (xs.map Item.enc),MG wide] (.bool (xs.any (fun x:Item=>decide ((x.row.length:Int)≠wide)))):=by
 have h:=Io hp wide xs hl;rw[<-zV (fun x:Item=>decide ((x.row.length:Int)≠wide)) xs 0 (Int.le_refl 0)];refine ff hp rfl rfl ?_;have S:=aj.nil []
 iterate 3
  all_goals(try(conv=>whnf))
  all_goals(first|(intro iK cp ee bf;replace S:=S.alloc ee bf)|(refine aC (S.row 0 rfl) ?_)|(refine aC (S.row 1 rfl) ?_)|(refine aC (S.row 2 rfl) ?_)|(refine aC (S.row 3 rfl) ?_)|(refine aC (S.row 4 rfl) ?_)|(refine⟨_,rfl,rfl,rfl,.inl ⟨_,S.row 0 rfl,rfl,?_⟩⟩;(conv=>whnf);intro cp bf;replace S:=S.w0 bf)|(refine⟨_,rfl,rfl,rfl,.inl ⟨_,S.row 1 rfl,rfl,?_⟩⟩;(conv=>whnf);intro cp bf;replace S:=S.w1 bf)|(refine⟨_,rfl,rfl,rfl,.inl ⟨_,S.row 2 rfl,rfl,?_⟩⟩;(conv=>whnf);intro cp bf;replace S:=S.w2 bf)|(refine⟨_,rfl,rfl,rfl,.inl ⟨_,S.row 3 rfl,rfl,?_⟩⟩;(conv=>whnf);intro cp bf;replace S:=S.w3 bf)|(refine⟨_,rfl,rfl,rfl,.inl ⟨_,S.row 4 rfl,rfl,?_⟩⟩;(conv=>whnf);intro cp bf;replace S:=S.w4 bf)|(refine ae (fun hb=>?_) (fun hb=>?_))|(refine⟨_,h _,?_⟩)|skip)
 all_goals exact br hb.symm
def Q3(wide:Int):af:=.func (.func 109) [] []
theorem Q4(hp:cF pr)(wide:Int)(x:Item):dK pr 109 ([x.enc]++[]) (.bool ((@id (Item->Bool) (fun x:Item=>decide (x.w<0))) x)):=by
 obtain⟨r,w⟩:=x;refine ff hp rfl rfl ?_;have S:=aj.nil []
 iterate 6
  all_goals(try(conv=>whnf))
  all_goals(first|(intro iK cp ee bf;replace S:=S.alloc ee bf)|(refine aC (S.row 0 rfl) ?_)|(refine aC (S.row 1 rfl) ?_)|(refine aC (S.row 2 rfl) ?_)|(refine aC (S.row 3 rfl) ?_)|(refine aC (S.row 4 rfl) ?_)|(refine⟨_,rfl,rfl,rfl,.inl ⟨_,S.row 0 rfl,rfl,?_⟩⟩;(conv=>whnf);intro cp bf;replace S:=S.w0 bf)|(refine⟨_,rfl,rfl,rfl,.inl ⟨_,S.row 1 rfl,rfl,?_⟩⟩;(conv=>whnf);intro cp bf;replace S:=S.w1 bf)|(refine⟨_,rfl,rfl,rfl,.inl ⟨_,S.row 2 rfl,rfl,?_⟩⟩;(conv=>whnf);intro cp bf;replace S:=S.w2 bf)|(refine⟨_,rfl,rfl,rfl,.inl ⟨_,S.row 3 rfl,rfl,?_⟩⟩;(conv=>whnf);intro cp bf;replace S:=S.w3 bf)|(refine⟨_,rfl,rfl,rfl,.inl ⟨_,S.row 4 rfl,rfl,?_⟩⟩;(conv=>whnf);intro cp bf;replace S:=S.w4 bf)|(refine ae (fun hb=>?_) (fun hb=>?_))|skip)
 all_goals exact br (by simp_all)
theorem KP(hp:cF pr)(wide:Int)(xs:List Item)(hl:xs.length<=dB):dK pr 129 [.sl (xs.map Item.enc),Q3 wide] (i64 (oY (fun x:Item=>decide (x.w<0)) 0 xs)):=by
 refine ff hp rfl rfl ?_;have S:=aj.nil [];conv=>whnf
 refine iv (fun m tm hp=>∃(j:Nat),j+m=xs.length/\tm 8=i64 (j:Nat)/\(oY (fun x:Item=>decide (x.w<0)) 0 xs=oY (fun x:Item=>decide (x.w<0)) (j:Nat) (xs.drop j))) (fun m tm hq bG hI=>?_) (xs.length) ⟨0,by simp,(by first|rfl|kernel_rfl|simp),(by simp)⟩;obtain⟨j,hj,e8,aF⟩:=hI;have k0:=bG 0 (by kernel_rfl);conv at k0=>rhs;whnf
 rw[<-aR k0];have k1:=bG 1 (by kernel_rfl);conv at k1=>rhs;whnf
 rw[<-aR k1];have k7:=bG 7 (by kernel_rfl);conv at k7=>rhs;whnf
 rw[<-aR k7];rw[<-aR e8];clear bG k0 k1 k7 e8;have S:aj hq []:=aj.nil hq;conv=>whnf
 refine ae (fun h1=>?_) (fun h1=>?_)
 ·have bp:j<xs.length:=by simpa using h1
  have g1:(xs.map Item.enc)[((j:Nat):Int).toNat]?=some (Item.enc xs[j]):=by rw[aaa];simp[bp]
  have h2:=Q4 hp wide xs[j];rw[aaf bp]at aF;have aF:oY (fun x:Item=>decide (x.w<0)) 0 xs=bif (@id (Item->Bool) (fun x:Item=>decide (x.w<0))) xs[j]then((j:Nat):Int)else oY (fun x:Item=>decide (x.w<0)) (((j:Nat):Int)+1) (xs.drop (j+1)):=aF;generalize(@id (Item->Bool) (fun x:Item=>decide (x.w<0))) xs[j]=b at h2 aF;generalize xs[j]=x at g1 h2;obtain⟨r,w⟩:=x;conv=>whnf
  refine⟨_,g1,by omega,rfl,?_⟩;conv=>whnf
  refine⟨_,h2 _,?_⟩;conv=>whnf
  refine ae (fun h3=>?_) (fun h3=>?_)
  ·conv=>whnf
   exact eJ (by rw[aF,h3];rfl)
  ·conv=>whnf
   exact⟨m-1,by omega,j+1,by omega,aP j (by simp[dB]at hl;omega),by rw[aF,h3];rfl⟩
 ·have bp:j=xs.length:=by have: ¬j<xs.length:=by simpa using h1
                          omega
  subst bp;rw[aal]at aF;conv=>whnf
  exact eJ (by rw[aF];rfl)
theorem KQ(hp:cF pr)(wide:Int)(xs:List Item)(hl:xs.length<=dB):dK pr 107 [.sl (xs.map Item.enc),Q3 wide] (.bool (xs.any (fun x:Item=>decide (x.w<0)))):=by
 have h:=KP hp wide xs hl;rw[<-zV (fun x:Item=>decide (x.w<0)) xs 0 (Int.le_refl 0)];refine ff hp rfl rfl ?_;have S:=aj.nil []
 iterate 3
  all_goals(try(conv=>whnf))
  all_goals(first|(intro iK cp ee bf;replace S:=S.alloc ee bf)|(refine aC (S.row 0 rfl) ?_)|(refine aC (S.row 1 rfl) ?_)|(refine aC (S.row 2 rfl) ?_)|(refine aC (S.row 3 rfl) ?_)|(refine aC (S.row 4 rfl) ?_)|(refine⟨_,rfl,rfl,rfl,.inl ⟨_,S.row 0 rfl,rfl,?_⟩⟩;(conv=>whnf);intro cp bf;replace S:=S.w0 bf)|(refine⟨_,rfl,rfl,rfl,.inl ⟨_,S.row 1 rfl,rfl,?_⟩⟩;(conv=>whnf);intro cp bf;replace S:=S.w1 bf)|(refine⟨_,rfl,rfl,rfl,.inl ⟨_,S.row 2 rfl,rfl,?_⟩⟩;(conv=>whnf);intro cp bf;replace S:=S.w2 bf)|(refine⟨_,rfl,rfl,rfl,.inl ⟨_,S.row 3 rfl,rfl,?_⟩⟩;(conv=>whnf);intro cp bf;replace S:=S.w3 bf)|(refine⟨_,rfl,rfl,rfl,.inl ⟨_,S.row 4 rfl,rfl,?_⟩⟩;(conv=>whnf);intro cp bf;replace S:=S.w4 bf)|(refine ae (fun hb=>?_) (fun hb=>?_))|(refine⟨_,h _,?_⟩)|skip)
 all_goals exact br hb.symm
end Go.Proofs.YtfepbikckfehlaaGreat
set_option maxHeartbeats 4000000
namespace Go.Am
open Go
theorem kT{α:Type}{f:α->af}{sz:Nat}{h:aG}{B:List Chunk}{xs ys:List α}{v:af}{K:af->aG->Prop}(S:aj h (.acc f sz xs v::B))(hl:xs.length+ys.length<=bB)
  (hK: ∀v' h',(v'= .nil∨ ∃k,v'= .own k 0 (xs++ys).length)->aj h' (.acc f sz (xs++ys) v'::B)->K v' h'):Kk h sz v (ys.map f) K:=by
   have h0:oW f sz h xs v:=S.get 0 rfl
   by_cases hy:ys=[]
   ·subst hy;rcases h0 with⟨rfl,rfl⟩|⟨id,rfl,h1⟩
    ·exact .inl ⟨rfl,hK .nil h (.inl rfl) (by simpa using S)⟩
    ·refine⟨_,h1,rfl,by simp,.inl ⟨rfl,fun h' e=>?_⟩⟩;rw[show(xs.map f).take xs.length=xs.map f by rw[abt (by simp)],QN h1]at e;subst e;exact hK (.own id 0 xs.length) _ (.inr ⟨id,by simp⟩) (by simpa using S)
   ·have hyn:ys.map f≠[]:=by simpa using hy
    rcases h0 with⟨rfl,rfl⟩|⟨id,rfl,h1⟩
    ·refine .inr ⟨hyn,by simp at hl⊢;exact hl,fun k h' e1 e2=>?_⟩;have S1:=(S.drop 0).alloc e1 e2;dsimp only[List.eraseIdx]at S1;have S2:=S1.qo 0 (c:=.row k (.arr sz (ys.map f))) (c':=.acc f sz ys (.own k 0 ys.length)) (h':=h') rfl (fun _ _ _=>rfl) (.inr ⟨k,rfl,S1.row 0 rfl⟩) (by simp[Chunk.acc,pO]) (fun id dm=>.inl dm);have:=hK (.own k 0 ys.length) h' (.inr ⟨k,by simp⟩) S2;rw[aat];exact this
    ·refine⟨_,h1,rfl,by simp,.inr ⟨hyn,by simpa using hl,fun k h' e1 e2=>?_⟩⟩;rw[show(xs.map f).take xs.length=xs.map f by rw[abt (by simp)]]at e2⊢;rw[<-aaD]at e2⊢;have S1:=S.qo 0 (c':=.row id .dead) (h':=h.set id .dead) rfl (fun j hj mD=>abJ (fun e=>mD (by simp[Chunk.acc,pO,e]))) (gQ rfl h1) (by simp[Chunk.row]) (fun j hj=>.inl hj);dsimp only[List.set]at S1;have S2:=(S1.drop 0).alloc (by simpa using e1) e2;dsimp only[List.eraseIdx]at S2;have S3:=S2.qo 0 (c:=.row k (.arr sz ((xs++ys).map f))) (c':=.acc f sz (xs++ys) (.own k 0 (xs++ys).length)) (h':=h') rfl (fun _ _ _=>rfl) (.inr ⟨k,rfl,S2.row 0 rfl⟩) (by simp[Chunk.acc,pO]) (fun id dm=>.inl dm);rw[aat];exact hK _ h' (.inr ⟨k,rfl⟩) S3
end Go.Am
namespace Go.Proofs.YtfepbikckfehlaaGreat
open Go Go.Am
variable{pr:bW}(hp:cF pr)
set_option maxRecDepth 100000
theorem N6(hp:cF pr)(x y:Item)(hx:x.row.length<=dB)(hy:y.row.length<=dB):dK pr 91 [x.enc,y.enc] (i64 (jc x.row y.row)):=by
 have h:=DI hp x.row y.row hx hy;obtain⟨r,w⟩:=x;obtain⟨r2,w2⟩:=y;refine ff hp rfl rfl ?_;have S:=aj.nil []
 iterate 9
  all_goals(try(conv=>whnf))
  all_goals(first|(intro iK cp ee bf;replace S:=S.alloc ee bf)|(refine aC (S.row 0 rfl) ?_)|(refine aC (S.row 1 rfl) ?_)|(refine aC (S.row 2 rfl) ?_)|(refine aC (S.row 3 rfl) ?_)|(refine aC (S.row 4 rfl) ?_)|(refine⟨_,rfl,rfl,rfl,.inl ⟨_,S.row 0 rfl,rfl,?_⟩⟩;(conv=>whnf);intro cp bf;replace S:=S.w0 bf)|(refine⟨_,rfl,rfl,rfl,.inl ⟨_,S.row 1 rfl,rfl,?_⟩⟩;(conv=>whnf);intro cp bf;replace S:=S.w1 bf)|(refine⟨_,rfl,rfl,rfl,.inl ⟨_,S.row 2 rfl,rfl,?_⟩⟩;(conv=>whnf);intro cp bf;replace S:=S.w2 bf)|(refine⟨_,rfl,rfl,rfl,.inl ⟨_,S.row 3 rfl,rfl,?_⟩⟩;(conv=>whnf);intro cp bf;replace S:=S.w3 bf)|(refine⟨_,rfl,rfl,rfl,.inl ⟨_,S.row 4 rfl,rfl,?_⟩⟩;(conv=>whnf);intro cp bf;replace S:=S.w4 bf)|(refine ae (fun hb=>?_) (fun hb=>?_))|(refine⟨_,h _,?_⟩)|skip)
 exact eJ rfl
def lK(a b:Int):Int:=IntKind.i64.wrap (a+b)
def Q5(x y:Item):Item:=⟨x.row,lK x.w y.w⟩
theorem YQ(hp:cF pr)(x y:Item):dK pr 92 [x.enc,y.enc] (.eT [(Q5 x y).enc,.bool (lK x.w y.w != 0)]):=by
 obtain⟨r,w⟩:=x;obtain⟨r2,w2⟩:=y;refine ff hp rfl rfl ?_;have S:=aj.nil []
 iterate 12
  all_goals(try(conv=>whnf))
  all_goals(first|(intro iK cp ee bf;replace S:=S.alloc ee bf)|(refine aC (S.row 0 rfl) ?_)|(refine aC (S.row 1 rfl) ?_)|(refine aC (S.row 2 rfl) ?_)|(refine aC (S.row 3 rfl) ?_)|(refine aC (S.row 4 rfl) ?_)|(refine⟨_,rfl,rfl,rfl,.inl ⟨_,S.row 0 rfl,rfl,?_⟩⟩;(conv=>whnf);intro cp bf;replace S:=S.w0 bf)|(refine⟨_,rfl,rfl,rfl,.inl ⟨_,S.row 1 rfl,rfl,?_⟩⟩;(conv=>whnf);intro cp bf;replace S:=S.w1 bf)|(refine⟨_,rfl,rfl,rfl,.inl ⟨_,S.row 2 rfl,rfl,?_⟩⟩;(conv=>whnf);intro cp bf;replace S:=S.w2 bf)|(refine⟨_,rfl,rfl,rfl,.inl ⟨_,S.row 3 rfl,rfl,?_⟩⟩;(conv=>whnf);intro cp bf;replace S:=S.w3 bf)|(refine⟨_,rfl,rfl,rfl,.inl ⟨_,S.row 4 rfl,rfl,?_⟩⟩;(conv=>whnf);intro cp bf;replace S:=S.w4 bf)|(refine ae (fun hb=>?_) (fun hb=>?_))|skip)
 iterate 2
  ·refine⟨?_,?_⟩
   ·repeat((try(conv=>whnf));first|trivial|(refine⟨cm rfl (S.row 0 rfl) rfl rfl,?_⟩)|(refine⟨cm rfl (S.row 1 rfl) rfl rfl,?_⟩)|(refine⟨cm rfl (S.row 2 rfl) rfl rfl,?_⟩)|(refine⟨cm rfl (S.row 3 rfl) rfl rfl,?_⟩)|(refine⟨cm rfl (S.row 4 rfl) rfl rfl,?_⟩)|(refine⟨cm rfl (S.row 5 rfl) rfl rfl,?_⟩)|(refine⟨cm rfl (S.row 6 rfl) rfl rfl,?_⟩)|(refine⟨cm rfl (S.row 7 rfl) rfl rfl,?_⟩)|(refine⟨cm rfl (S.row 8 rfl) rfl rfl,?_⟩))
   iterate 3
    all_goals(try(conv=>whnf))
    all_goals(first|(intro iK cp ee bf;replace S:=S.alloc ee bf)|(refine aC (S.row 0 rfl) ?_)|(refine aC (S.row 1 rfl) ?_)|(refine aC (S.row 2 rfl) ?_)|(refine aC (S.row 3 rfl) ?_)|(refine aC (S.row 4 rfl) ?_)|(refine⟨_,rfl,rfl,rfl,.inl ⟨_,S.row 0 rfl,rfl,?_⟩⟩;(conv=>whnf);intro cp bf;replace S:=S.w0 bf)|(refine⟨_,rfl,rfl,rfl,.inl ⟨_,S.row 1 rfl,rfl,?_⟩⟩;(conv=>whnf);intro cp bf;replace S:=S.w1 bf)|(refine⟨_,rfl,rfl,rfl,.inl ⟨_,S.row 2 rfl,rfl,?_⟩⟩;(conv=>whnf);intro cp bf;replace S:=S.w2 bf)|(refine⟨_,rfl,rfl,rfl,.inl ⟨_,S.row 3 rfl,rfl,?_⟩⟩;(conv=>whnf);intro cp bf;replace S:=S.w3 bf)|(refine⟨_,rfl,rfl,rfl,.inl ⟨_,S.row 4 rfl,rfl,?_⟩⟩;(conv=>whnf);intro cp bf;replace S:=S.w4 bf)|(refine ae (fun hb=>?_) (fun hb=>?_))|skip)
   refine⟨_,aS rfl rfl (S.row 0 rfl) rfl rfl,_,_,rfl,?_⟩;have hb':(lK w w2 != 0)=_:=hb;rw[hb'];rfl
def eI:List Item->List Item->List Item
 | [],b=>b
 |a,[]=>a
 |x::xs,y::ys=>
  if jc x.row y.row<0 then x::eI xs (y::ys)
  else if jc x.row y.row>0 then y::eI (x::xs) ys
  else bif lK x.w y.w != 0 then Q5 x y::eI xs ys else eI xs ys
termination_by a b=>a.length+b.length
theorem u9(b:List Item):eI [] b=b:=by simp[eI]
theorem s6(a:List Item):eI a []=a:=by cases a<;>simp[eI]
theorem vc: ∀(n:Nat)(a b:List Item),a.length+b.length<=n->(eI a b).length<=a.length+b.length:=by
 intro n
 induction n with
 |zero=>intro a b h;have ha:a=[]:=aaM.1 (by omega);have hb:b=[]:=aaM.1 (by omega);subst ha;subst hb;simp[eI]
 |succ n ih=>
  intro a b h
  cases a with
  |nil=>simp[eI]
  |cons x xs=>
   cases b with
   |nil=>simp[eI]
   |cons y ys=>
    simp only[aak]at h;rw[eI];have h1:=ih xs (y::ys) (by simp;omega);have h2:=ih (x::xs) ys (by simp;omega);have h3:=ih xs ys (by omega);simp only[aak]at h1 h2⊢;split
    ·simp only[aak];omega
    ·split
     ·simp only[aak];omega
     ·cases(lK x.w y.w != 0)
      ·simp only[cond_false];omega
      ·simp only[cond_true,aak];omega
theorem Bh: ∀(n:Nat)(a b:List Item),a.length+b.length<=n-> ∀z∈eI a b,∃y,(y∈a∨y∈b)/\z.row=y.row:=by
 intro n
 induction n with
 |zero=>intro a b h;have ha:a=[]:=aaM.1 (by omega);have hb:b=[]:=aaM.1 (by omega);subst ha;subst hb;simp[eI]
 |succ n ih=>
  intro a b h z hz
  cases a with
  |nil=>rw[u9]at hz;exact⟨z,.inr hz,rfl⟩
  |cons x xs=>
   cases b with
   |nil=>rw[s6]at hz;exact⟨z,.inl hz,rfl⟩
   |cons y ys=>
    simp only[aak]at h;rw[eI]at hz;have h1:=ih xs (y::ys) (by simp;omega) z;have h2:=ih (x::xs) ys (by simp;omega) z;have h3:=ih xs ys (by omega) z;have up: ∀{p q:List Item},(∃w,(w∈p∨w∈q)/\z.row=w.row)->(∀w∈p,w∈x::xs)->(∀w∈q,w∈y::ys)-> ∃w,(w∈x::xs∨w∈y::ys)/\z.row=w.row:=fun⟨w,h,e⟩ hp hq=>⟨w,h.imp (hp w) (hq w),e⟩;split at hz
    ·rcases aaz.1 hz with rfl|hz
     ·exact⟨z,.inl (by simp),rfl⟩
     ·exact up (h1 hz) (fun w hw=>by simp[hw]) (fun w hw=>hw)
    ·split at hz
     ·rcases aaz.1 hz with rfl|hz
      ·exact⟨z,.inr (by simp),rfl⟩
      ·exact up (h2 hz) (fun w hw=>hw) (fun w hw=>by simp[hw])
     ·cases hc:(lK x.w y.w != 0)
      ·rw[hc]at hz;exact up (h3 hz) (fun w hw=>by simp[hw]) (fun w hw=>by simp[hw])
      ·rw[hc]at hz;rcases aaz.1 hz with rfl|hz
       ·exact⟨x,.inl (by simp),rfl⟩
       ·exact up (h3 hz) (fun w hw=>by simp[hw]) (fun w hw=>by simp[hw])
theorem zX(z:List Item):(z.map Item.enc).all (jh 2)=true:=by
 rw[aaj];intro y hy;obtain⟨q,_,rfl⟩:=aaO.1 hy;rfl
theorem nf(z:List Item):(z.map Item.enc).all (fun y=>y.cells.length==2)=true:=by
 rw[aaj];intro y hy;obtain⟨q,_,rfl⟩:=aaO.1 hy;rfl
def abw:af:=.func (.func 91) [] []
def abx:af:=.func (.func 92) [] []
theorem DK{h:aG}(x:Item):cI h 4194303 x.enc=some x.enc:=rfl
theorem Xt(x:Item)(xs:List Item):af.sl ((((x::xs).map Item.enc).drop 1).take (((x::xs).map Item.enc).length-1))= .sl (xs.map Item.enc):=by
 simp only[aao,List.drop_succ_cons,List.drop_zero,aak,aat,Nat.add_sub_cancel];rw[abt (by simp)]
theorem Q6(hp:cF pr)(a b:List Item)(ha:ij a)(hb:ij b):dK pr 90 [.sl (a.map Item.enc),.sl (b.map Item.enc),abw,abx] (.sl ((eI a b).map Item.enc)):=by
 obtain⟨Ng,PB⟩:=ha;obtain⟨vM,PC⟩:=hb;refine ff hp rfl rfl ?_;have S:=aj.nil [];conv=>whnf
 refine iv (fun m tm hp=>∃(a' b' z:List Item)(D:af),a'.length+b'.length=m/\tm 0= .sl (a'.map Item.enc)/\tm 1= .sl (b'.map Item.enc)/\tm 9=D/\aj hp [.acc Item.enc 2 z D]/\eI a b=z++eI a' b'/\z.length+a'.length+b'.length<=a.length+b.length/\(∀x∈a',x∈a)/\(∀x∈b',x∈b)) (fun m tm hq bG hI=>?_) (a.length+b.length) ⟨a,b,[],.nil,rfl,rfl,rfl,rfl,S.nF _ _,rfl,by simp,fun _ h=>h,fun _ h=>h⟩;obtain⟨a',b',z,D,hm,e0,e1,e9,S2,aF,hz,YR,YS⟩:=hI;have k2:=bG 2 (by kernel_rfl);conv at k2=>rhs;whnf
 rw[<-aR k2];have k3:=bG 3 (by kernel_rfl);conv at k3=>rhs;whnf
 rw[<-aR k3,<-aR e0,<-aR e1,<-aR e9];clear bG k2 k3 e0 e1 e9 S;have S:=S2;clear S2;have Ge:z.length+1<=bB:=by simp[bB,dB]at Ng vM⊢;omega
 cases a' with
 |nil=>
  conv=>whnf
  refine⟨trivial,?_⟩;conv=>whnf
  refine⟨_,rfl,zX [],?_⟩;refine kT (ys:=[]) S (by simp only[bB,dB]at*;simp only[abv,aak,abj]at*;omega) fun D1 w1 Gh S1=>?_;conv=>whnf
  refine⟨trivial,?_⟩;conv=>whnf
  refine⟨_,rfl,zX b',?_⟩;refine kT (ys:=b') S1 (by simp only[bB,dB]at*;simp only[abv,aak,abj]at*;omega) fun D2 w2 ZT S2=>?_;conv=>whnf
  refine⟨_,rfl,_,_,rfl,?_⟩;have hfz:=(show oW Item.enc 2 w2 _ D2 from S2.get 0 rfl).frozen fun x _=>DK x;refine Eq.trans hfz ?_;rw[aF]
  rw[u9,aaw]
 |cons x xs=>
  cases b' with
  |nil=>
   conv=>whnf
   refine fS (by simp;try omega) ?_;conv=>whnf
   refine⟨trivial,?_⟩;conv=>whnf
   refine⟨_,rfl,zX (x::xs),?_⟩;refine kT (ys:=(x::xs)) S (by simp only[bB,dB]at*;simp only[abv,aak,abj]at*;omega) fun D1 w1 Gh S1=>?_;conv=>whnf
   refine⟨trivial,?_⟩;conv=>whnf
   refine⟨_,rfl,zX [],?_⟩;refine kT (ys:=[]) S1 (by simp only[bB,dB]at*;simp only[abv,aak,abj]at*;omega) fun D2 w2 ZT S2=>?_;conv=>whnf
   refine⟨_,rfl,_,_,rfl,?_⟩;have hfz:=(show oW Item.enc 2 w2 _ D2 from S2.get 0 rfl).frozen fun x _=>DK x;refine Eq.trans hfz ?_;rw[aF]
   rw[s6,aaw]
  |cons y ys=>
   have hxr:=PB x (YR x (by simp));have hyr:=PC y (YS y (by simp));have h1:=N6 hp x y hxr hyr;have h2:=YQ hp x y;rw[eI]at aF;have hm1:Q5 x y=⟨x.row,lK x.w y.w⟩:=rfl;generalize Q5 x y=mx at h2 aF hm1;obtain⟨r,w⟩:=x;obtain⟨r2,w2⟩:=y;obtain⟨r3,w3⟩:=mx;simp only at h1 h2 aF;generalize jc r r2=c at h1 aF;generalize hb3:(lK w w2 != 0)=b3 at h2 aF;conv=>whnf
   refine fS (by simp;try omega) ?_;conv=>whnf
   refine fS (by simp;try omega) ?_;conv=>whnf
   refine⟨_,rfl,by decide,rfl,?_⟩;conv=>whnf
   refine⟨_,rfl,by decide,rfl,?_⟩;conv=>whnf
   refine⟨_,h1 _,?_⟩;conv=>whnf
   refine ae (fun g1=>?_) (fun g1=>?_)
   ·rw[if_pos (by simpa using g1)]at aF;conv=>whnf
    refine⟨_,rfl,by decide,rfl,?_⟩;conv=>whnf
    intro k1 q1 eg AO;replace S:=S.alloc eg AO;conv=>whnf
    refine⟨⟨by decide,by simp<;>omega,by simp<;>omega,nf _⟩,?_⟩;conv=>whnf
    refine⟨trivial,?_⟩;conv=>whnf
    refine⟨[(Item.mk r w).enc],bT (S.row 0 rfl),rfl,?_⟩;replace S:=S.drop 0;dsimp only[List.eraseIdx]at S;refine qp (sz:=2) S Ge fun k2 q2 S3 _=>?_;conv=>whnf
    refine⟨?_,?_⟩
    ·conv=>whnf
     refine⟨DF rfl rfl rfl rfl ⟨by decide,by simp<;>omega,by simp<;>omega,nf _⟩ rfl,?_⟩;conv=>whnf
     trivial
    conv=>whnf
    exact⟨m-1,by simp at hm;omega,xs,⟨r2,w2⟩::ys,z++[⟨r,w⟩],_,by simp at hm⊢;omega,Xt _ _,rfl,rfl,S3,by rw[aF,abr];rfl,by simp at hz⊢;omega,fun x hx=>YR x (List.mem_cons_of_mem _ hx),YS⟩
   ·rw[if_neg (by simpa using g1)]at aF;conv=>whnf
    refine ae (fun g2=>?_) (fun g2=>?_)
    ·rw[if_pos (by simpa using g2)]at aF;conv=>whnf
     refine⟨_,rfl,by decide,rfl,?_⟩;conv=>whnf
     intro k1 q1 eg AO;replace S:=S.alloc eg AO;conv=>whnf
     refine⟨⟨by decide,by simp<;>omega,by simp<;>omega,nf _⟩,?_⟩;conv=>whnf
     refine⟨trivial,?_⟩;conv=>whnf
     refine⟨[(Item.mk r2 w2).enc],bT (S.row 0 rfl),rfl,?_⟩;replace S:=S.drop 0;dsimp only[List.eraseIdx]at S;refine qp (sz:=2) S Ge fun k2 q2 S3 _=>?_;conv=>whnf
     refine⟨?_,?_⟩
     ·conv=>whnf
      refine⟨DF rfl rfl rfl rfl ⟨by decide,by simp<;>omega,by simp<;>omega,nf _⟩ rfl,?_⟩;conv=>whnf
      trivial
     conv=>whnf
     exact⟨m-1,by simp at hm;omega,⟨r,w⟩::xs,ys,z++[⟨r2,w2⟩],_,by simp at hm⊢;omega,rfl,Xt _ _,rfl,S3,by rw[aF,abr];rfl,by simp at hz⊢;omega,YR,fun x hx=>YS x (List.mem_cons_of_mem _ hx)⟩
    ·rw[if_neg (by simpa using g2)]at aF
     cases b3 with
     |false=>
      rw[cond_false]at aF;conv=>whnf
      refine⟨_,rfl,by decide,rfl,?_⟩;conv=>whnf
      refine⟨_,rfl,by decide,rfl,?_⟩;conv=>whnf
      refine⟨_,h2 _,?_⟩;conv=>whnf
      intro k1 q1 eg AO;replace S:=S.alloc eg AO;conv=>whnf
      refine⟨_,rfl,rfl,rfl,.inl ⟨_,S.row 0 rfl,rfl,?_⟩⟩;conv=>whnf
      intro q2 jb;replace S:=S.w0 jb;conv=>whnf
      refine⟨⟨by decide,by simp<;>omega,by simp<;>omega,nf _⟩,?_⟩;conv=>whnf
      refine⟨⟨by decide,by simp<;>omega,by simp<;>omega,nf _⟩,?_⟩;conv=>whnf
      replace S:=S.drop 0;dsimp only[List.eraseIdx]at S
      exact⟨m-2,by simp at hm;omega,xs,ys,z,_,by simp at hm⊢;omega,Xt _ _,Xt _ _,rfl,S,aF,by simp at hz⊢;omega,fun x hx=>YR x (List.mem_cons_of_mem _ hx),fun x hx=>YS x (List.mem_cons_of_mem _ hx)⟩
     |true=>
      rw[cond_true]at aF;conv=>whnf
      refine⟨_,rfl,by decide,rfl,?_⟩;conv=>whnf
      refine⟨_,rfl,by decide,rfl,?_⟩;conv=>whnf
      refine⟨_,h2 _,?_⟩;conv=>whnf
      intro k1 q1 eg AO;replace S:=S.alloc eg AO;conv=>whnf
      refine⟨_,rfl,rfl,rfl,.inl ⟨_,S.row 0 rfl,rfl,?_⟩⟩;conv=>whnf
      intro q2 jb;replace S:=S.w0 jb;refine aC (S.row 0 rfl) ?_;conv=>whnf
      intro k3 q3 mF Cp;replace S:=S.alloc mF Cp;conv=>whnf
      refine⟨trivial,?_⟩;conv=>whnf
      refine⟨[(Item.mk r3 w3).enc],bT (S.row 0 rfl),rfl,?_⟩;replace S:=S.pick [2] (by decide);simp only[lY,aaT,abd]at S;refine qp (sz:=2) S Ge fun k4 q4 S3 _=>?_;conv=>whnf
      refine⟨⟨by decide,by simp<;>omega,by simp<;>omega,nf _⟩,?_⟩;conv=>whnf
      refine⟨⟨by decide,by simp<;>omega,by simp<;>omega,nf _⟩,?_⟩;conv=>whnf
      exact⟨m-2,by simp at hm;omega,xs,ys,z++[⟨r3,w3⟩],_,by simp at hm⊢;omega,Xt _ _,Xt _ _,rfl,S3,by rw[aF,abr];rfl,by simp at hz⊢;omega,fun x hx=>YR x (List.mem_cons_of_mem _ hx),fun x hx=>YS x (List.mem_cons_of_mem _ hx)⟩
end Go.Proofs.YtfepbikckfehlaaGreat
set_option maxHeartbeats 4000000
namespace Go.Proofs.YtfepbikckfehlaaGreat
open Go Go.Am
variable{pr:bW}(hp:cF pr)
set_option maxRecDepth 100000
theorem rH{h:aG}{L:List Chunk}{row:List Int}{w:Int}{A:af}{F:List Nat}(S:aj h (.dL (iR.d row) A F::L)):aj h (.dL (Item.d ⟨row,w⟩) (.agg [A,i64 w]) (F++[])::L):=
 S.is (c':=.dL (Item.d ⟨row,w⟩) (.agg [A,i64 w]) (F++[])) (iF.2 ⟨_,rfl,jD (S.get 0 rfl) (fh iL)⟩) (by simp[Chunk.dL])
theorem Ff(hp:DE pr)(z:List Item)(hz:z.length<=dB/\ ∀x∈z,x.row.length<=1048576):lZ pr 53 [.sl (z.map Item.enc)] (aI.d z):=by
 obtain⟨hl,hr⟩:=hz;refine MB hp.tocF rfl ?_;have S:=aj.nil [];conv=>whnf
 replace S:=aj.lJ 2 S;refine iv (fun m tm hp=>∃(j:Nat)(D:af)(F:List Nat),j+m=z.length/\tm 8=i64 (j:Nat)/\tm 3=D/\aj hp [.jA 2 ((z.take j).map Item.d) D F]) (fun m tm hq bG hI=>?_) (z.length) ⟨0,.nil,[],by simp,(by first|rfl|kernel_rfl|simp),(by first|rfl|kernel_rfl|simp),S⟩;obtain⟨j,D,F,hj,e8,e3,S2⟩:=hI;have k6:=bG 6 (by kernel_rfl);conv at k6=>rhs;whnf
 rw[<-aR k6];have k7:=bG 7 (by kernel_rfl);conv at k7=>rhs;whnf
 rw[<-aR k7];rw[<-aR e8];rw[<-aR e3];clear bG k6 k7 e8 e3;clear S;have S:=S2;clear S2;conv=>whnf
 have gA:j<4611686018427387904:=by simp[dB]at hl;omega
 refine ae (fun h1=>?_) (fun h1=>?_)
 ·have bp:j<z.length:=by simpa using h1
  have dw:(z.map Item.enc)[((j:Nat):Int).toNat]?=some (Item.enc z[j]):=by rw[aaa];simp[bp]
  have eZ:=N0.toD (hp.QP z[j].row (hr _ (aac bp))).toL;have vE:=congrArg (List.map Item.d) (dX bp);rw[aaD]at vE;generalize z[j]=x at dw eZ vE;obtain⟨row,w⟩:=x;conv=>whnf
  refine⟨_,dw,by omega,rfl,?_⟩
  iterate 4
   all_goals(try(conv=>whnf))
   all_goals(first|(intro iK cp ee bf;replace S:=S.alloc ee bf)|(refine aC (S.row 0 rfl) ?_)|(refine aC (S.row 1 rfl) ?_)|(refine aC (S.row 2 rfl) ?_)|(refine aC (S.row 3 rfl) ?_)|(refine aC (S.row 4 rfl) ?_)|(refine⟨_,rfl,rfl,rfl,.inl ⟨_,S.row 0 rfl,rfl,?_⟩⟩;(conv=>whnf);intro cp bf;replace S:=S.w0 bf)|(refine⟨_,rfl,rfl,rfl,.inl ⟨_,S.row 1 rfl,rfl,?_⟩⟩;(conv=>whnf);intro cp bf;replace S:=S.w1 bf)|(refine⟨_,rfl,rfl,rfl,.inl ⟨_,S.row 2 rfl,rfl,?_⟩⟩;(conv=>whnf);intro cp bf;replace S:=S.w2 bf)|(refine⟨_,rfl,rfl,rfl,.inl ⟨_,S.row 3 rfl,rfl,?_⟩⟩;(conv=>whnf);intro cp bf;replace S:=S.w3 bf)|(refine⟨_,rfl,rfl,rfl,.inl ⟨_,S.row 4 rfl,rfl,?_⟩⟩;(conv=>whnf);intro cp bf;replace S:=S.w4 bf)|(refine ae (fun hb=>?_) (fun hb=>?_))|skip)
  refine fp S eZ rfl rfl fun A q1 F1 o1 S1=>?_;replace S:=S1;clear S1
  iterate 2
   all_goals(try(conv=>whnf))
   all_goals(first|(refine ep o1.cell.1 ?_)|(intro iK cp ee bf;replace S:=S.alloc ee bf)|(refine aC (S.row 0 rfl) ?_)|(refine aC (S.row 1 rfl) ?_)|(refine aC (S.row 2 rfl) ?_)|(refine aC (S.row 3 rfl) ?_)|(refine aC (S.row 4 rfl) ?_)|(refine⟨_,rfl,rfl,rfl,.inl ⟨_,S.row 0 rfl,rfl,?_⟩⟩;(conv=>whnf);intro cp bf;replace S:=S.w0 bf)|(refine⟨_,rfl,rfl,rfl,.inl ⟨_,S.row 1 rfl,rfl,?_⟩⟩;(conv=>whnf);intro cp bf;replace S:=S.w1 bf)|(refine⟨_,rfl,rfl,rfl,.inl ⟨_,S.row 2 rfl,rfl,?_⟩⟩;(conv=>whnf);intro cp bf;replace S:=S.w2 bf)|(refine⟨_,rfl,rfl,rfl,.inl ⟨_,S.row 3 rfl,rfl,?_⟩⟩;(conv=>whnf);intro cp bf;replace S:=S.w3 bf)|(refine⟨_,rfl,rfl,rfl,.inl ⟨_,S.row 4 rfl,rfl,?_⟩⟩;(conv=>whnf);intro cp bf;replace S:=S.w4 bf)|(refine ae (fun hb=>?_) (fun hb=>?_))|skip)
  conv=>whnf
  intro kv hv hkv hhv;replace S:=S.alloc hkv hhv;conv=>whnf
  refine⟨trivial,?_⟩;conv=>whnf
  refine⟨[_],bT (S.row 0 rfl),fi rfl (bM o1.cell.2 rfl),?_⟩;replace S:=S.pick [3,1] (by decide);simp only[lY,aaT,abd]at S;replace S:=(rH (w:=w) S.swap).swap;refine lp S (by simp[bB,dB]at*;omega) fun k h2 F2 S2=>?_;conv=>whnf
  exact⟨m-1,by omega,j+1,_,_,by omega,aP j gA,rfl,by rw[vE];exact S2⟩
 ·have bp:j=z.length:=by have: ¬j<z.length:=by simpa using h1
                         omega
  subst bp;conv=>whnf
  rw[aar]at S;exact⟨_,rfl,_,_,_,rfl,(aj.ek S).get 0 rfl,(S.get' 0 _ rfl).2⟩
theorem aj.kn{h:aG}{L:List Chunk}{xs:List Int}{v:af}(s:aj h (.acc i64 1 xs v::L)):aj h (.dL (iR.d xs) v (pO v)::L):=
 s.is (c':=.dL (iR.d xs) v (pO v)) (by
  show cq h (.s 1 (xs.map bg.i)) v (pO v);refine KI.1 ?_;have h0:oW i64 1 h xs v:=s.get 0 rfl;rcases h0 with⟨rfl,rfl⟩|⟨id,rfl,h1⟩
  ·exact .inl ⟨rfl,rfl,.inl rfl⟩
  ·exact .inr ⟨id,rfl,h1,rfl⟩) rfl
theorem KR(xs:List Int):(xs.map i64).all (jh 1)=true:=by
 rw[aaj];intro y hy;obtain⟨q,_,rfl⟩:=aaO.1 hy;rfl
theorem qL(hp:cF pr)(xs:List Int)(hl:xs.length<=dB):lZ pr 93 [.sl (xs.map i64)] (iR.d xs):=by
 refine MB hp rfl ?_;have S:=aj.nil [];conv=>whnf
 refine⟨trivial,?_⟩;conv=>whnf
 refine⟨_,rfl,KR xs,?_⟩;refine kT (ys:=xs) (aj.nF i64 1 S) (by simp[bB,dB]at*;omega) fun D1 w1 Gh S1=>?_;conv=>whnf
 exact⟨_,rfl,_,_,_,rfl,(aj.kn S1).get 0 rfl,((aj.kn S1).get' 0 _ rfl).2⟩
theorem l7(hp:cF pr)(z:List Item)(hz:ij z):u0 pr 55 [.sl (z.map Item.enc)] 2 (z.map Item.d):=by
 obtain⟨hl,hr⟩:=hz;have gA: ∀j,j<=z.length->j<4611686018427387904:=fun j h=>by simp[dB]at hl;omega
 refine E8 hp rfl ?_;have S:=aj.nil [];conv=>whnf
 replace S:=aj.lJ 2 S;refine iv (fun m tm hp=>∃(j:Nat)(D:af)(F:List Nat),j+m=z.length/\tm 3=D/\tm 4=i64 (j:Nat)/\aj hp [.jA 2 ((z.take j).map Item.d) D F]) (fun m tm hq bG hI=>?_) (z.length) ⟨0,.nil,[],by simp,(by first|rfl|kernel_rfl|simp),(by first|rfl|kernel_rfl|simp),S⟩;obtain⟨j,D,F,hj,e3,e4,S2⟩:=hI;have k0:=bG 0 (by kernel_rfl);conv at k0=>rhs;whnf
 rw[<-aR k0];rw[<-aR e3];rw[<-aR e4];clear bG k0 e3 e4;clear S;have S:=S2;clear S2;conv=>whnf
 have gA:=gA j (by omega);refine ae (fun h1=>?_) (fun h1=>?_)
 ·have bp:j<z.length:=by simpa using h1
  have dw:(z.map Item.enc)[((j:Nat):Int).toNat]?=some (Item.enc z[j]):=by rw[aaa];simp[bp]
  have eZ:=qL hp z[j].row (hr _ (aac bp));have vE:=congrArg (List.map Item.d) (dX bp);rw[aaD]at vE;generalize z[j]=x at dw eZ vE;obtain⟨row,w⟩:=x;conv=>whnf
  refine⟨_,dw,by omega,rfl,?_⟩;conv=>whnf
  refine fp S eZ rfl rfl fun A q1 F1 o1 S1=>?_;replace S:=S1;clear S1;conv=>whnf
  refine⟨_,dw,by omega,rfl,?_⟩;conv=>whnf
  refine ep o1.cell.1 ?_;conv=>whnf
  intro pI pJ dT dU;replace S:=S.alloc dT dU;conv=>whnf
  refine⟨trivial,?_⟩;conv=>whnf
  refine⟨[_],bT (S.row 0 rfl),fi rfl (bM o1.cell.2 rfl),?_⟩;replace S:=S.drop 0;dsimp only[List.eraseIdx]at S;replace S:=(rH (w:=w) S).swap;refine lp S (by simp[bB,dB]at*;omega) fun k_ h2 F2 S2=>?_;conv=>whnf
  exact⟨m-1,by omega,j+1,_,_,by omega,rfl,aP j gA,by rw[vE];exact S2⟩
 ·have bp:j=z.length:=by
   have: ¬j<z.length:=by simpa using h1
   omega
  subst bp;conv=>whnf
  rw[aar]at S;exact⟨_,rfl,_,_,_,rfl,S.get 0 rfl,(S.get' 0 _ rfl).2⟩
end Go.Proofs.YtfepbikckfehlaaGreat

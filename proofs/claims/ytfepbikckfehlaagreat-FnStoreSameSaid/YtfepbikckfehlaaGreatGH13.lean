/- The reference's form of plans; SlimOnce. -/
import Derived.Test.YtfepbikckfehlaaGreatGH12
set_option linter.unusedVariables false
set_option linter.unusedSimpArgs false
set_option maxHeartbeats 4000000
namespace Go.Proofs.YtfepbikckfehlaaGreat
open Go Go.Am
variable{pr:bW}(hp:cF pr)
set_option maxRecDepth 100000
theorem Qu(b:Int):((0:Int)==b)=(b==0):=by rw[BEq.comm]
theorem oc(hp:cF pr)(n wide:Int):dK pr 211 [i64 n,i64 wide] (.bool (col n wide)):=by
 refine cX hp rfl rfl ?_;have hm: ∀n,n<(if 6<wide then 6 else wide)↔(n<wide/\n<6):=fun n=>by split<;>omega
 iterate 4
  all_goals(try(conv=>whnf))
  all_goals(first|(refine ae (fun hb=>?_) (fun hb=>?_))|skip)
 all_goals exact bw (by simp only[ge_iff_le,decide_eq_true_eq,decide_eq_false_iff_not,hm]at*;first|(simp_all[col];done)|(simp_all[col];omega)|(simp_all[col];intros;omega))
theorem Hs(hp:cF pr)(n:Int):dK pr 68 [i64 n] (.bool (bQ n)):=by
 refine cX hp rfl rfl ?_
 iterate 3
  all_goals(try(conv=>whnf))
  all_goals(first|(refine ae (fun hb=>?_) (fun hb=>?_))|skip)
 all_goals exact bw (by first|(simp_all[bQ];done)|(simp_all[bQ];omega)|(simp_all[bQ];intros;omega))
theorem na(hp:cF pr)(ok:Bool)(w:Int):dK pr 32 [.bool ok,i64 w] (i64 (if ok then w else-1)):=by
 refine cX hp rfl rfl ?_;cases ok
 ·conv=>whnf
  exact cu rfl
 ·conv=>whnf
  exact cu rfl
def aaX:TypeId:=221
def aaY:TypeId:=223
def aaZ:TypeId:=225
def Qv(c:Cell):af:=
 if c.au=1 then .iface aaX (.agg [i64 c.a])
 else if c.au=2 then .iface aaY (.agg [i64 c.n])
 else if c.au=3 then .iface aaZ (.agg [i64 c.a,i64 c.b])
 else .qZ
theorem CE(hp:cF pr)(c:Cell):dK pr 197 [c.enc] (Qv c):=by
 obtain⟨k,a,b,n⟩:=c;refine cX hp rfl rfl ?_;rcases yW k with rfl|rfl|rfl|⟨h1,h2,h3⟩
 iterate 3
  ·conv=>whnf
   exact⟨_,_,rfl,rfl⟩
 ·iterate 4
   all_goals(try(conv=>whnf))
   all_goals(first|(refine bm h1 ?_)|(refine bm h2 ?_)|(refine bm h3 ?_)|(refine ae (fun hb=>?_) (fun hb=>?_))|skip)
  have:Qv ⟨k,a,b,n⟩= .qZ:=by simp_all[Qv]
  rw[this];exact⟨_,_,rfl,rfl⟩
theorem NL(hp:cF pr)(a:Int):dK pr 231 [.agg [i64 a]] (Cell.enc ⟨1,a,0,0⟩):=by
 refine cX hp rfl rfl ?_;conv=>whnf
 exact⟨_,_,rfl,rfl⟩
theorem NM(hp:cF pr)(n:Int):dK pr 235 [.agg [i64 n]] (Cell.enc ⟨2,0,0,n⟩):=by
 refine cX hp rfl rfl ?_;conv=>whnf
 exact⟨_,_,rfl,rfl⟩
theorem NN(hp:cF pr)(a b:Int):dK pr 239 [.agg [i64 a,i64 b]] (Cell.enc ⟨3,a,b,0⟩):=by
 refine cX hp rfl rfl ?_;conv=>whnf
 exact⟨_,_,rfl,rfl⟩
theorem Tp(hp:cF pr)(a w:Int):dK pr 233 [.agg [i64 a],i64 w] (.bool (col a w)):=by
 refine cX hp rfl rfl ?_
 iterate 3
  all_goals(try(conv=>whnf))
  all_goals(first|(refine ae (fun hb=>?_) (fun hb=>?_))|(refine⟨_,oc hp _ _ _,?_⟩)|skip)
 all_goals exact bw hb.symm
theorem Tq(hp:cF pr)(n w:Int):dK pr 237 [.agg [i64 n],i64 w] (.bool (bQ n)):=by
 refine cX hp rfl rfl ?_
 iterate 3
  all_goals(try(conv=>whnf))
  all_goals(first|(refine ae (fun hb=>?_) (fun hb=>?_))|(refine⟨_,Hs hp _ _,?_⟩)|skip)
 all_goals exact bw hb.symm
theorem Tr(hp:cF pr)(a b w:Int):dK pr 241 [.agg [i64 a,i64 b],i64 w] (.bool (col a w&&col b w)):=by
 refine cX hp rfl rfl ?_
 iterate 5
  all_goals(try(conv=>whnf))
  all_goals(first|(refine ae (fun hb=>?_) (fun hb=>?_))|(refine⟨_,oc hp _ _ _,?_⟩)|skip)
 all_goals exact bw (by simp_all)
theorem xO(hp:cF pr)(c:Cell)(w:Int):dK pr 196 [c.enc,i64 w] (.bool (fe c w)):=by
 have h0:=CE hp c;obtain⟨k,a,b,n⟩:=c;refine cX hp rfl rfl ?_;rcases yW k with rfl|rfl|rfl|⟨h1,h2,h3⟩
 iterate 3
  ·iterate 8
    all_goals(try(conv=>whnf))
    all_goals(first|(refine ae (fun hb=>?_) (fun hb=>?_))|(refine⟨_,h0 _,?_⟩)|(refine⟨_,NL hp _ _,?_⟩)|(refine⟨_,NM hp _ _,?_⟩)|(refine⟨_,NN hp _ _ _,?_⟩)|(refine⟨_,Tp hp _ _ _,?_⟩)|(refine⟨_,Tq hp _ _ _,?_⟩)|(refine⟨_,Tr hp _ _ _ _,?_⟩)|(refine⟨_,_,A0,rfl,?_⟩)|skip)
   all_goals exact bw (by clear h0;(try simp only[Qu]at*);first|(simp_all[fe];done)|(simp_all[fe];omega))
 ·have hr:Qv ⟨k,a,b,n⟩= .qZ:=by simp_all[Qv]
  rw[hr]at h0;conv=>whnf
  refine⟨_,h0 _,?_⟩;conv=>whnf
  exact bw (by clear h0;simp_all[fe])
theorem NO(hp:cF pr)(t:Test)(wide:Int):dK pr 195 [t.enc,i64 wide] (.bool (kZ t wide)):=by
 obtain⟨k,no,l,r⟩:=t;refine cX hp rfl rfl ?_
 iterate 10
  all_goals(try(conv=>whnf))
  all_goals(first|(refine ae (fun hb=>?_) (fun hb=>?_))|(refine⟨_,xO hp l _ _,?_⟩)|(refine⟨_,xO hp r _ _,?_⟩)|skip)
 all_goals exact bw (by first|(simp_all[kZ];done)|(simp_all[kZ];omega)|(simp_all[kZ];intros;omega))
end Go.Proofs.YtfepbikckfehlaaGreat
set_option maxHeartbeats 4000000
namespace Go.Am
open Go
theorem Ht{h:aG}{n:Nat}{v r:af}(hs:cI h n v=some r)(hr:r.isScalar=true):v=r:=by
 cases n with
 |zero=>cases hs
 |succ n=>
  cases v<;>(try simp only[cI]at hs)
  case map id=>
   split at hs
   ·split at hs
    ·cases hs;cases hr
    ·cases hs
   ·cases hs
  case own id st len=>
   split at hs
   ·split at hs
    ·simp only[nM]at hs;obtain⟨_,_,rfl⟩:=hs;cases hr
    ·cases hs
   ·cases hs
  case ptr id i off=>
   split at hs
   ·split at hs
    ·simp only[nM]at hs;obtain⟨_,_,rfl⟩:=hs;cases hr
    ·cases hs
   ·simp only[nM]at hs;obtain⟨_,_,rfl⟩:=hs;cases hr
   ·cases hs
  case func fn a b=>
   split at hs
   ·cases hs;cases hr
   ·cases hs
  case agg cs=>simp only[nM]at hs;obtain⟨_,_,rfl⟩:=hs;cases hr
  case eT cs=>simp only[nM]at hs;obtain⟨_,_,rfl⟩:=hs;cases hr
  case iface t v=>simp only[nM]at hs;obtain⟨_,_,rfl⟩:=hs;cases hr
  all_goals(first|(cases hs;done)|(cases hs;rfl)|(cases hs;cases hr))
end Go.Am
namespace Go.Proofs.YtfepbikckfehlaaGreat
open Go Go.Am
theorem dK.some{pr:bW}{f:FuncId}{args:List af}{res:af}(hr:dK pr f args res)(hi:dc [] args=some args)(hM:gI f=Am.Mode.P:=by rfl): ∃v h1,call (dZ pr) f args []=some (.ret v h1)/\snap h1 v=some res:=by
 have h0:=hr [];have hm:(dZ pr).M f= .P:=hM;unfold cj at h0;simp only[hm,hi]at h0
 cases hc:call (dZ pr) f args []with
 |none=>rw[hc]at h0;cases h0
 |some q=>
  rw[hc]at h0
  cases q with
  |ret v h1=>
   simp only[nM]at h0;obtain⟨w,hw,he⟩:=h0;cases he
   exact⟨v,h1,rfl,hw⟩
  |jI v h1=>
   simp only[nM]at h0;obtain⟨w,hw,he⟩:=h0;cases he
theorem dK.mX{pr:bW}{f:FuncId}{args dD:List af}{res:af}(hr:dK pr f dD res)(hs:dc [] args=Option.some dD)(hi:dc [] dD=Option.some dD)(hM:gI f=Am.Mode.P:=by rfl):dK pr f args res:=by
 obtain⟨v,h1,hc,hv⟩:=hr.some hi hM;intro h;have hm:(dZ pr).M f= .P:=hM;unfold cj;simp only[hm,hs,hc,hv,aaL]
theorem dK.frozen{pr:bW}{f:FuncId}{args dD:List af}{res:af}{h:aG}(hr:dK pr f dD res)(hn:dc [] args=Option.none)(hs:dc h args=Option.some dD)(hi:dc [] dD=Option.some dD)(aQ:res.isScalar=true)(hM:gI f=Am.Mode.P:=by rfl):
  cj (dZ pr) (call (dZ pr)) f args h=Option.some (.ret res h):=by
   obtain⟨v,h1,hc,hv⟩:=hr.some hi hM;obtain rfl:=Ht hv aQ;have hm:(dZ pr).M f= .P:=hM;have sc:v.Sz=true:=by cases v<;>first|exact aQ|cases aQ
   unfold cj;simp only[hm,hn,hs,hc,sc,if_true]
variable{pr:bW}(hp:cF pr)
set_option maxRecDepth 100000
def EJ(v:Int)(k:Int):List Int->Int
 | []=>-1
 |x::xs=>if v==x then k else EJ v (k+1) xs
theorem Hu(v:Int): ∀(xs:List Int)(k:Int),0<=k->(EJ v k xs>=0↔xs.contains v=true)
 | [],k,_=>by simp[EJ]
 |x::xs,k,hk=>by
  have ih:=Hu v xs (k+1) (by omega);rw[List.contains_cons];unfold EJ
  by_cases h:(v==x)=true
  ·rw[if_pos h];simp[h];exact hk
  ·rw[if_neg h];simp only[Bool.eq_false_iff.2 h,Bool.false_or];exact ih
theorem Ts(v:Int)(xs:List Int)(k:Int)(hk:0<=k):decide (EJ v k xs>=0)=xs.contains v:=by
 rw[Bool.eq_iff_iff,decide_eq_true_iff];exact Hu v xs k hk
theorem Tt(hp:cF pr)(xs:List Int)(v:Int)(hl:xs.length<=1048576):dK pr 229 [.sl (xs.map i64),i64 v] (i64 (EJ v 0 xs)):=by
 refine cX hp rfl rfl ?_;conv=>whnf
 refine eD (fun m st=>∃j:Nat,j+m=xs.length/\st.tm 0= .sl (xs.map i64)/\st.tm 1=i64 v/\st.tm 7=i64 ((xs.map i64).length:Nat)/\st.tm 8=i64 (j:Nat)/\st.hp=[]/\EJ v 0 xs=EJ v (j:Nat) (xs.drop j)) (fun m st hI=>?_) (xs.length) _ ⟨0,by simp,(by first|kernel_rfl|rfl|simp),(by first|kernel_rfl|rfl|simp),(by first|kernel_rfl|rfl|simp),(by first|kernel_rfl|rfl|simp),(by first|kernel_rfl|rfl|simp),(by first|rfl|simp)⟩;obtain⟨j,hj,e0,e1,e7,e8,hh,aF⟩:=hI;obtain⟨tm,hq⟩:=st;simp only at e0 e1 e7 e8 hh;subst hh;rw[show tm=fX (fX (fX (fX tm 0 (.sl (xs.map i64))) 1 (i64 v)) 7 (i64 ((xs.map i64).length:Nat))) 8 (i64 (j:Nat)) by rw[aR e0,aR e1,aR e7,aR e8]];clear e0 e1 e7 e8;conv=>whnf
 refine ae (fun h1=>?_) (fun h1=>?_)
 ·have bp:j<xs.length:=by simpa using h1
  rw[aaf bp]at aF;simp only[EJ]at aF;conv=>whnf
  refine⟨i64 xs[j],by simp[bp],by omega,rfl,?_⟩;conv=>whnf
  refine ae (fun h2=>?_) (fun h2=>?_)
  ·conv=>whnf
   exact cu (by rw[aF,h2];rfl)
  ·conv=>whnf
   exact⟨m-1,by omega,j+1,by omega,rfl,rfl,rfl,aP j (by omega),rfl,by rw[aF,h2];rfl⟩
 ·have bp:j=xs.length:=by have: ¬j<xs.length:=by simpa using h1
                          omega
  subst bp;rw[aal]at aF;conv=>whnf
  exact cu (by rw[aF];rfl)
theorem Kq(hp:cF pr)(xs:List Int)(v:Int)(hl:xs.length<=1048576):dK pr 228 [.sl (xs.map i64),i64 v] (.bool (xs.contains v)):=by
 refine cX hp rfl rfl ?_;rw[<-Ts v xs 0 (Int.le_refl 0)]
 iterate 3
  all_goals(try(conv=>whnf))
  all_goals(first|(refine ae (fun hb=>?_) (fun hb=>?_))|(refine⟨_,Tt hp xs v hl _,?_⟩)|skip)
 all_goals exact bw hb.symm
theorem NP(hp:cF pr)(xs:List Int)(wide:Int)(hl:xs.length<=1048576):dK pr 227 [.sl (xs.map i64),i64 wide] (.bool (eU xs wide)):=by
 refine cX hp rfl rfl ?_;conv=>whnf
 refine ae (fun h0=>?_) (fun h0=>?_)
 ·have dw: ¬xs.length<6:=by
   have:((xs.map i64).length:Int)>=6:=by simpa using h0
   simp at this;omega
  conv=>whnf
  exact bw (by simp[eU,dw])
 have fK:xs.length<6:=by
  have: ¬((xs.map i64).length:Int)>=6:=by simpa using h0
  simp at this;omega
 have VH:eU xs wide=ld [] wide xs:=by simp[eU,fK]
 rw[VH];conv=>whnf
 refine eD (fun m st=>∃j:Nat,j+m=xs.length/\st.tm 0= .sl (xs.map i64)/\st.tm 1=i64 wide/\st.tm 10= .sl (xs.map i64)/\st.tm 11=i64 ((xs.map i64).length:Nat)/\st.tm 12=i64 (j:Nat)/\st.hp=[]/\ld [] wide xs=ld (xs.take j) wide (xs.drop j)) (fun m st hI=>?_) (xs.length) _ ⟨0,by simp,(by first|kernel_rfl|rfl|simp),(by first|kernel_rfl|rfl|simp),(by first|kernel_rfl|rfl|simp),(by first|kernel_rfl|rfl|simp),(by first|kernel_rfl|rfl|simp),(by first|kernel_rfl|rfl|simp),(by first|rfl|simp)⟩;obtain⟨j,hj,e0,e1,sq,Kr,Mr,hh,aF⟩:=hI;obtain⟨tm,hq⟩:=st;simp only at e0 e1 sq Kr Mr hh;subst hh;rw[show tm=fX (fX (fX (fX (fX tm 0 (.sl (xs.map i64))) 1 (i64 wide)) 10 (.sl (xs.map i64))) 11 (i64 ((xs.map i64).length:Nat))) 12 (i64 (j:Nat)) by rw[aR e0,aR e1,aR sq,aR Kr,aR Mr]];clear e0 e1 sq Kr Mr;conv=>whnf
 refine ae (fun h1=>?_) (fun h1=>?_)
 ·have bp:j<xs.length:=by simpa using h1
  rw[aaf bp]at aF;simp only[ld]at aF;conv=>whnf
  refine⟨i64 xs[j],by simp[bp],by omega,rfl,?_⟩;conv=>whnf
  refine⟨_,oc hp xs[j] wide _,?_⟩;conv=>whnf
  refine ae (fun h2=>?_) (fun h2=>?_)
  ·rw[h2,aay]at aF;conv=>whnf
   refine⟨⟨Int.le_refl 0,by show(0:Int)<=((j:Nat):Int);omega,by show((j:Nat):Int)<=_;simp;omega,aaj.2 fun y hy=>?_⟩,?_⟩
   ·obtain⟨z,_,rfl⟩:=aaO.1 hy;rfl
   have vE:(af.sl (((xs.map i64).drop (0:Int).toNat).take (((j:Nat):Int).toNat-(0:Int).toNat)))= .sl ((xs.take j).map i64):=by
    rw[aaa];show af.sl (((xs.map i64).drop 0).take (j-0))=_;rw[List.drop_zero,Nat.sub_zero,List.map_take]
   have hct:dK pr 228 [af.sl (((xs.map i64).drop (0:Int).toNat).take (((j:Nat):Int).toNat-(0:Int).toNat)),i64 xs[j]] (.bool ((xs.take j).contains xs[j])):=by
    rw[vE];exact Kq hp (xs.take j) xs[j] (by simp;omega)
   conv=>whnf
   refine⟨_,hct _,?_⟩;conv=>whnf
   refine ae (fun h3=>?_) (fun h3=>?_)
   ·conv=>whnf
    exact bw (by rw[aF,h3];rfl)
   ·conv=>whnf
    refine⟨m-1,by omega,j+1,by omega,rfl,rfl,rfl,rfl,aP j (by omega),rfl,?_⟩;have aa0:xs.take (j+1)=xs.take j++[xs[j]]:=(List.take_append_getElem bp).symm;rw[aF,h3,aa0];rfl
  ·conv=>whnf
   exact bw (by rw[aF,h2];rfl)
 ·have bp:j=xs.length:=by have: ¬j<xs.length:=by simpa using h1
                          omega
  subst bp;rw[aal]at aF;conv=>whnf
  exact bw (by rw[aF];rfl)
def Ms(ws:List Int):af:=.func (.func 204) [] [.fQ [.sl (ws.map i64)] 0 0]
theorem Tu(hp:cF pr)(c:Cell)(w:Int)(ws:List Int):dK pr 204 [c.enc,.fQ [.sl ((w::ws).map i64)] 0 0] (.bool (!fe c w)):=by
 have h:=xO hp c w;obtain⟨k,a,b,n⟩:=c;refine cX hp rfl rfl ?_;conv=>whnf
 refine⟨i64 w,rfl,by omega,rfl,?_⟩
 iterate 3
  all_goals(try(conv=>whnf))
  all_goals(first|(refine ae (fun hb=>?_) (fun hb=>?_))|(refine⟨_,h _,?_⟩)|skip)
 all_goals exact bw (by rw[hb])
def EK(w:Int)(k:Int):List Cell->Int
 | []=>-1
 |c::cs=>if !fe c w then k else EK w (k+1) cs
theorem Hv(w:Int): ∀(xs:List Cell)(k:Int),0<=k->(EK w k xs>=0↔(!xs.all (fun c=>fe c w))=true)
 | [],k,_=>by simp[EK]
 |x::xs,k,hk=>by
  have ih:=Hv w xs (k+1) (by omega);rw[abi];unfold EK
  by_cases h:fe x w=true
  ·rw[if_neg (by simp[h])];simp only[h,aay];exact ih
  ·rw[if_pos (by simp[h])];simp only[Bool.eq_false_iff.2 h,Bool.false_and,Bool.not_false,iff_true];exact hk
theorem Tv(w:Int)(xs:List Cell)(k:Int)(hk:0<=k):decide (EK w k xs>=0)= !xs.all (fun c=>fe c w):=by
 rw[Bool.eq_iff_iff,decide_eq_true_iff];exact Hv w xs k hk
theorem Hw(hp:cF pr)(xs:List Cell)(w:Int)(ws:List Int)(hl:xs.length<=1048576):dK pr 205 [.sl (xs.map Cell.enc),Ms (w::ws)] (i64 (EK w 0 xs)):=by
 refine cX hp rfl rfl ?_;conv=>whnf
 refine eD (fun m st=>∃j:Nat,j+m=xs.length/\st.tm 0= .sl (xs.map Cell.enc)/\st.tm 1=Ms (w::ws)/\st.tm 7=i64 ((xs.map Cell.enc).length:Nat)/\st.tm 8=i64 (j:Nat)/\st.hp=[]/\EK w 0 xs=EK w (j:Nat) (xs.drop j)) (fun m st hI=>?_) (xs.length) _ ⟨0,by simp,(by first|kernel_rfl|rfl|simp),(by first|kernel_rfl|rfl|simp),(by first|kernel_rfl|rfl|simp),(by first|kernel_rfl|rfl|simp),(by first|kernel_rfl|rfl|simp),(by first|rfl|simp)⟩;obtain⟨j,hj,e0,e1,e7,e8,hh,aF⟩:=hI;obtain⟨tm,hq⟩:=st;simp only at e0 e1 e7 e8 hh;subst hh;rw[show tm=fX (fX (fX (fX tm 0 (.sl (xs.map Cell.enc))) 1 (Ms (w::ws))) 7 (i64 ((xs.map Cell.enc).length:Nat))) 8 (i64 (j:Nat)) by rw[aR e0,aR e1,aR e7,aR e8]];clear e0 e1 e7 e8;conv=>whnf
 refine ae (fun h1=>?_) (fun h1=>?_)
 ·have bp:j<xs.length:=by simpa using h1
  rw[aaf bp]at aF;simp only[EK]at aF;conv=>whnf
  refine⟨(xs[j]).enc,by simp[bp],by omega,rfl,?_⟩;conv=>whnf
  refine⟨_,Tu hp xs[j] w ws _,?_⟩;conv=>whnf
  refine ae (fun h2=>?_) (fun h2=>?_)
  ·conv=>whnf
   exact cu (by rw[aF,h2];rfl)
  ·conv=>whnf
   exact⟨m-1,by omega,j+1,by omega,rfl,rfl,rfl,aP j (by omega),rfl,by rw[aF,h2];rfl⟩
 ·have bp:j=xs.length:=by have: ¬j<xs.length:=by simpa using h1
                          omega
  subst bp;rw[aal]at aF;conv=>whnf
  exact cu (by rw[aF];rfl)
theorem A1(hp:cF pr)(xs:List Cell)(w:Int)(ws:List Int)(hl:xs.length<=1048576):dK pr 203 [.sl (xs.map Cell.enc),Ms (w::ws)] (.bool (!xs.all (fun c=>fe c w))):=by
 refine cX hp rfl rfl ?_;rw[<-Tv w xs 0 (Int.le_refl 0)]
 iterate 3
  all_goals(try(conv=>whnf))
  all_goals(first|(refine ae (fun hb=>?_) (fun hb=>?_))|(refine⟨_,Hw hp xs w ws hl _,?_⟩)|skip)
 all_goals exact bw hb.symm
end Go.Proofs.YtfepbikckfehlaaGreat
set_option maxHeartbeats 4000000
namespace Go.Proofs.YtfepbikckfehlaaGreat
open Go Go.Am
def bZ{α β:Type}(f:α->β->Bool):List α->List β->Bool
 | [],[]=>true
 |a::us,b::vs=>f a b&&bZ f us vs
 |_,_=>false
theorem A2{α β:Type}{f:α->β->Bool}: ∀{us:List α}{vs:List β},bZ f us vs=true->us.length=vs.length
 | [],[],_=>rfl
 |a::us,b::vs,h=>by
  simp only[bZ,xz]at h
  simp[A2 h.2]
 | [],_::_,h=>by cases h
 |_::_,[],h=>by cases h
theorem fg{α β:Type}{f:α->β->Bool}{us:List α}{vs:List β}(h:us.length≠vs.length):bZ f us vs=false:=by
 cases hq:bZ f us vs with
 |false=>rfl
 |true=>exact absurd (A2 hq) h
theorem en{α β:Type}{f:α->β->Bool}{us:List α}{vs:List β}{j:Nat}(ha:j<us.length)(hb:j<vs.length):bZ f (us.drop j) (vs.drop j)=(f us[j] vs[j]&&bZ f (us.drop (j+1)) (vs.drop (j+1))):=by
 rw[aaf ha,aaf hb];rfl
theorem eN{α β:Type}{f:α->β->Bool}{us:List α}{vs:List β}(h:us.length=vs.length):bZ f (us.drop us.length) (vs.drop us.length)=true:=by
 rw[aal,h,aal];rfl
variable{pr:bW}(hp:cF pr)
set_option maxRecDepth 100000
theorem Hx(hp:cF pr)(xs ys:List Int)(hl:xs.length<=1048576):dK pr 39 [.sl (xs.map i64),.sl (ys.map i64)] (.bool (bZ (· == ·) xs ys)):=by
 refine cX hp rfl rfl ?_;conv=>whnf
 refine ae (fun h0=>?_) (fun h0=>?_)
 ·conv=>whnf
  exact bw (fg (by simp at h0;omega)).symm
 have hlen:xs.length=ys.length:=by simp at h0;omega
 conv=>whnf
 refine eD (fun m st=>∃j:Nat,j+m=xs.length/\st.tm 0= .sl (xs.map i64)/\st.tm 1= .sl (ys.map i64)/\st.tm 12=i64 ((xs.map i64).length:Nat)/\st.tm 13=i64 (j:Nat)/\st.hp=[]/\bZ (· == ·) xs ys=bZ (· == ·) (xs.drop j) (ys.drop j)) (fun m st hI=>?_) (xs.length) _ ⟨0,by simp,(by first|kernel_rfl|rfl|simp),(by first|kernel_rfl|rfl|simp),(by first|kernel_rfl|rfl|simp),(by first|kernel_rfl|rfl|simp),(by first|kernel_rfl|rfl|simp),(by first|rfl|simp)⟩;obtain⟨j,hj,e0,e1,Mr,NQ,hh,aF⟩:=hI;obtain⟨tm,hq⟩:=st;simp only at e0 e1 Mr NQ hh;subst hh;rw[show tm=fX (fX (fX (fX tm 0 (.sl (xs.map i64))) 1 (.sl (ys.map i64))) 12 (i64 ((xs.map i64).length:Nat))) 13 (i64 (j:Nat)) by rw[aR e0,aR e1,aR Mr,aR NQ]];clear e0 e1 Mr NQ;conv=>whnf
 refine ae (fun h1=>?_) (fun h1=>?_)
 ·have bp:j<xs.length:=by simpa using h1
  rw[en bp (by omega)]at aF;conv=>whnf
  refine⟨i64 xs[j],by simp[bp],by omega,rfl,?_⟩;conv=>whnf
  refine⟨i64 ys[j],by simp[show j<ys.length by omega],by omega,rfl,?_⟩;conv=>whnf
  refine ae (fun h2=>?_) (fun h2=>?_)
  ·have h3:(xs[j]==ys[j])=false:=by simpa using h2
   conv=>whnf
   exact bw (by rw[aF,h3];rfl)
  ·have h3:(xs[j]==ys[j])=true:=by simpa using h2
   conv=>whnf
   exact⟨m-1,by omega,j+1,by omega,rfl,rfl,rfl,aP j (by omega),rfl,by rw[aF,h3];rfl⟩
 ·have bp:j=xs.length:=by have: ¬j<xs.length:=by simpa using h1
                          omega
  subst bp;rw[eN hlen]at aF;conv=>whnf
  exact bw aF.symm
def kH(c d:Cell):Bool:=c.au==d.au&&(c.a==d.a&&(c.b==d.b&&(c.n==d.n&&true)))
theorem NR(hp:cF pr)(xs ys:List Cell)(hl:xs.length<=1048576):dK pr 103 [.sl (xs.map Cell.enc),.sl (ys.map Cell.enc)] (.bool (bZ kH xs ys)):=by
 refine cX hp rfl rfl ?_;conv=>whnf
 refine ae (fun h0=>?_) (fun h0=>?_)
 ·conv=>whnf
  exact bw (fg (by simp at h0;omega)).symm
 have hlen:xs.length=ys.length:=by simp at h0;omega
 conv=>whnf
 refine eD (fun m st=>∃j:Nat,j+m=xs.length/\st.tm 0= .sl (xs.map Cell.enc)/\st.tm 1= .sl (ys.map Cell.enc)/\st.tm 12=i64 ((xs.map Cell.enc).length:Nat)/\st.tm 13=i64 (j:Nat)/\st.hp=[]/\bZ kH xs ys=bZ kH (xs.drop j) (ys.drop j)) (fun m st hI=>?_) (xs.length) _ ⟨0,by simp,(by first|kernel_rfl|rfl|simp),(by first|kernel_rfl|rfl|simp),(by first|kernel_rfl|rfl|simp),(by first|kernel_rfl|rfl|simp),(by first|kernel_rfl|rfl|simp),(by first|rfl|simp)⟩;obtain⟨j,hj,e0,e1,Mr,NQ,hh,aF⟩:=hI;obtain⟨tm,hq⟩:=st;simp only at e0 e1 Mr NQ hh;subst hh;rw[show tm=fX (fX (fX (fX tm 0 (.sl (xs.map Cell.enc))) 1 (.sl (ys.map Cell.enc))) 12 (i64 ((xs.map Cell.enc).length:Nat))) 13 (i64 (j:Nat)) by rw[aR e0,aR e1,aR Mr,aR NQ]];clear e0 e1 Mr NQ;conv=>whnf
 refine ae (fun h1=>?_) (fun h1=>?_)
 ·have bp:j<xs.length:=by simpa using h1
  rw[en bp (by omega)]at aF;conv=>whnf
  refine⟨(xs[j]).enc,by simp[bp],by omega,rfl,?_⟩;conv=>whnf
  refine⟨(ys[j]).enc,by simp[show j<ys.length by omega],by omega,rfl,?_⟩;conv=>whnf
  refine⟨_,kH xs[j] ys[j],A0,rfl,?_⟩;refine ae (fun h2=>?_) (fun h2=>?_)
  ·conv=>whnf
   exact⟨m-1,by omega,j+1,by omega,rfl,rfl,rfl,aP j (by omega),rfl,by rw[aF,h2];rfl⟩
  ·conv=>whnf
   exact bw (by rw[aF,h2];rfl)
 ·have bp:j=xs.length:=by have: ¬j<xs.length:=by simpa using h1
                          omega
  subst bp;rw[eN hlen]at aF;conv=>whnf
  exact bw aF.symm
def uR(s t:Test):Bool:=s.au==t.au&&(s.no==t.no&&(s.l.au==t.l.au&&(s.l.a==t.l.a&&(s.l.b==t.l.b&&(s.l.n==t.l.n&&(s.r.au==t.r.au&&(s.r.a==t.r.a&&(s.r.b==t.r.b&&(s.r.n==t.r.n&&true)))))))))
mutual
def eY:aA->aA->Bool
 | .mk au n aD cells a b aq agg c ao,q=>(au==q.au&&(n==q.n&&(uR aD q.aD&&(a==q.a&&(b==q.b&&(agg==q.agg&&c==q.col))))))&&(bZ kH cells q.cells&&(bZ (· == ·) aq q.aq&&qa ao q.ao))
def qa:List aA->List aA->Bool
 | [],[]=>true
 |p::ps,q::qs=>eY p q&&qa ps qs
 |_,_=>false
end
theorem mO: ∀(ps qs:List aA),qa ps qs=bZ eY ps qs
 | [],[]=>rfl
 |p::ps,q::qs=>by simp only[qa,bZ,mO ps qs]
 | [],_::_=>rfl
 |_::_,[]=>rfl
def Qw:af:=.func (.func 71) [] []
theorem Hy(hp:cF pr)(xs ys:List aA)(hl:xs.length<=1048576)(ih: ∀p∈xs,∀q,dK pr 71 [p.enc,q.enc] (.bool (eY p q))):
  dK pr 104 [.sl (aA.dv xs),.sl (aA.dv ys),Qw] (.bool (qa xs ys)):=by
   rw[mO];have hx:=eH xs;have hy:=eH ys;refine cX hp rfl rfl ?_;conv=>whnf
   refine ae (fun h0=>?_) (fun h0=>?_)
   ·conv=>whnf
    exact bw (fg (by simp at h0;omega)).symm
   have hlen:xs.length=ys.length:=by simp at h0;omega
   conv=>whnf
   refine AV true (fun m st=>∃j:Nat,j+m=xs.length/\st.tm 0= .sl (aA.dv xs)/\st.tm 1= .sl (aA.dv ys)/\st.tm 2=Qw/\st.tm 15= .sl (aA.dv xs)/\st.tm 16=i64 ((aA.dv xs).length:Nat)/\st.tm 17=i64 (j:Nat)/\bZ eY xs ys=bZ eY (xs.drop j) (ys.drop j)) (fun m st hI=>?_) xs.length _ ⟨0,by simp,rfl,rfl,rfl,rfl,rfl,rfl,rfl⟩;obtain⟨j,hj,e0,e1,e2,e15,e16,Gg,aF⟩:=hI;obtain⟨tm,hq⟩:=st;simp only at e0 e1 e2 e15 e16 Gg;rw[show tm=fX (fX (fX (fX (fX (fX tm 0 (.sl (aA.dv xs))) 1 (.sl (aA.dv ys))) 2 Qw) 15 (.sl (aA.dv xs))) 16 (i64 ((aA.dv xs).length:Nat))) 17 (i64 (j:Nat)) by rw[aR e0,aR e1,aR e2,aR e15,aR e16,aR Gg]];clear e0 e1 e2 e15 e16 Gg;conv=>whnf
   refine ae (fun h1=>?_) (fun h1=>?_)
   ·have bp:j<xs.length:=by have:j<(aA.dv xs).length:=by simpa using h1
                            omega
    have ss:j<ys.length:=by omega
    rw[en bp ss]at aF;have eZ:=ih xs[j] (aac bp) ys[j];have g1:(aA.dv xs)[((j:Nat):Int).toNat]?=some xs[j].enc:=by rw[aaa,fN,aab bp];rfl
    have g2:(aA.dv ys)[((j:Nat):Int).toNat]?=some ys[j].enc:=by rw[aaa,fN,aab ss];rfl
    generalize xs[j]=p at eZ aF g1;generalize ys[j]=q at eZ aF g2;obtain⟨au,n,aD,cells,a,b,aq,agg,c,ao⟩:=p;obtain⟨cG,n',dq,bR,a',b',cH,dE,c',cE⟩:=q;conv=>whnf
    refine⟨_,g1,by omega,rfl,?_⟩;conv=>whnf
    intro k1 q1 eg AO;conv=>whnf
    refine⟨_,rfl,rfl,rfl,.inl ⟨_,gD eg AO,rfl,?_⟩⟩;conv=>whnf
    intro q2 qD;conv=>whnf
    refine⟨_,g2,by omega,rfl,?_⟩;conv=>whnf
    intro k3 q3 mF Cp;conv=>whnf
    refine⟨_,rfl,rfl,rfl,.inl ⟨_,gD mF Cp,rfl,?_⟩⟩;conv=>whnf
    intro q4 Xq
    have n13:k3≠k1:=by
     have a1:=ib (gQ qD (gD eg AO));omega
    conv=>whnf
    refine .inl ⟨_,mN Xq (jo Cp (gQ qD (gD eg AO))) n13,rfl,?_⟩;conv=>whnf
    refine .inl ⟨_,gQ Xq (gD mF Cp),rfl,?_⟩;conv=>whnf
    refine⟨_,eZ _,?_⟩;conv=>whnf
    refine ae (fun h2=>?_) (fun h2=>?_)
    ·conv=>whnf
     exact⟨m-1,by omega,j+1,by omega,rfl,rfl,rfl,rfl,rfl,aP j (by omega),by rw[aF,h2];rfl⟩
    ·conv=>whnf
     exact bw (by rw[aF,h2];rfl)
   ·have bp:j=xs.length:=by have: ¬j<(aA.dv xs).length:=by simpa using h1
                            omega
    subst bp;rw[eN hlen]at aF;conv=>whnf
    exact bw aF.symm
theorem Hz(hp:cF pr): ∀(N:Nat)(p:aA),SizeOf.sizeOf p<=N->p.small-> ∀q,dK pr 71 [p.enc,q.enc] (.bool (eY p q)):=by
 intro N
 induction N with
 |zero=>intro p h;exfalso;cases p;simp at h
 |succ N ih=>
  intro p hs gu q;obtain⟨au,n,aD,cells,a,b,aq,agg,c,ao⟩:=p;obtain⟨cG,n',dq,bR,a',b',cH,dE,c',cE⟩:=q;obtain⟨sc,lf,gS,gE⟩:=eE gu;have hc:=NR hp cells bR sc;have hk:=Hx hp aq cH lf;have hf:=Hy hp ao cE gS fun p UP q=>ih p (by have:=abo UP;simp at hs;omega) (gE p UP) q;refine cX hp rfl rfl ?_
  iterate 22
   all_goals(try(conv=>whnf))
   all_goals(first|(refine ae (fun hb=>?_) (fun hb=>?_))|(refine⟨_,uR aD dq,wv,rfl,?_⟩)|(refine⟨_,hc _,?_⟩)|(refine⟨_,hk _,?_⟩)|(refine⟨_,hf _,?_⟩)|skip)
  all_goals exact bw (by clear hc hk hf ih hs gu gE sc lf gS;simp_all[eY,aA.au,aA.n,aA.aD,aA.cells,aA.a,aA.b,aA.aq,aA.agg,aA.col,aA.ao])
theorem uS(hp:cF pr)(p q:aA)(gu:p.small):dK pr 71 [p.enc,q.enc] (.bool (eY p q)):=Hz hp _ p (aah _) gu q
end Go.Proofs.YtfepbikckfehlaaGreat
set_option maxHeartbeats 4000000
namespace Go.Proofs.YtfepbikckfehlaaGreat
open Go Go.Am
variable{pr:bW}(hp:cF pr)
set_option maxRecDepth 100000
def A3(k:Nat):af:=.iface k (.agg [])
def V1:af:=.oo [i64 1,i64 2,i64 3,i64 4,i64 5,i64 6,i64 7]
 [A3 132,A3 133,A3 134,A3 135,A3 136,A3 137,A3 138]
theorem EL(hp:cF pr):dK pr 65 [] V1:=by
 refine cX hp rfl rfl ?_;conv=>whnf
 exact⟨_,_,rfl,rfl⟩
theorem HA(hp:cF pr):dK pr 186 [.agg []] (i64 0):=by
 refine cX hp rfl rfl ?_;conv=>whnf
 exact cu rfl
theorem HB(hp:cF pr):dK pr 191 [.agg []] (i64 1):=by
 refine cX hp rfl rfl ?_;conv=>whnf
 exact cu rfl
theorem NS(hp:cF pr):dK pr 199 [.agg []] (i64 1):=by
 refine cX hp rfl rfl ?_;conv=>whnf
 exact cu rfl
theorem Ks(hp:cF pr):dK pr 207 [.agg []] (i64 2):=by
 refine cX hp rfl rfl ?_;conv=>whnf
 exact cu rfl
theorem Kt(hp:cF pr):dK pr 213 [.agg []] (i64 2):=by
 refine cX hp rfl rfl ?_;conv=>whnf
 exact cu rfl
theorem Ku(hp:cF pr):dK pr 218 [.agg []] (i64 1):=by
 refine cX hp rfl rfl ?_;conv=>whnf
 exact cu rfl
theorem HC(hp:cF pr):dK pr 223 [.agg []] (i64 1):=by
 refine cX hp rfl rfl ?_;conv=>whnf
 exact cu rfl
def zT:Test:=⟨0,false,⟨0,0,0,0⟩,⟨0,0,0,0⟩⟩
def only:aA->aA
 | .mk au n aD cells a b aq agg c _=>
  .mk au (if au=1 then n else 0) (if au=2 then aD else zT) (if au=3 then cells else []) (if au=4 then a else 0) (if au=4 then b else 0) (if au=7 then aq else []) (if au=7 then agg else 0) (if au=7 then c else 0) []
theorem HD(hp:cF pr)(n:Int)(aD:Test)(cells:List Cell)(a b:Int)(aq:List Int)(agg c:Int)(ao:List aA):dK pr 187 [.agg [],(aA.mk 1 n aD cells a b aq agg c ao).enc] (only (aA.mk 1 n aD cells a b aq agg c ao)).enc:=by
 refine cX hp rfl rfl ?_;conv=>whnf
 exact⟨_,_,rfl,rfl⟩
theorem HE(hp:cF pr)(n:Int)(aD:Test)(cells:List Cell)(a b:Int)(aq:List Int)(agg c:Int)(ao:List aA):dK pr 192 [.agg [],(aA.mk 2 n aD cells a b aq agg c ao).enc] (only (aA.mk 2 n aD cells a b aq agg c ao)).enc:=by
 refine cX hp rfl rfl ?_;conv=>whnf
 exact⟨_,_,rfl,rfl⟩
theorem NT(hp:cF pr)(n:Int)(aD:Test)(cells:List Cell)(a b:Int)(aq:List Int)(agg c:Int)(ao:List aA):dK pr 200 [.agg [],(aA.mk 3 n aD cells a b aq agg c ao).enc] (only (aA.mk 3 n aD cells a b aq agg c ao)).enc:=by
 refine cX hp rfl rfl ?_;conv=>whnf
 exact⟨_,_,rfl,rfl⟩
theorem Kv(hp:cF pr)(n:Int)(aD:Test)(cells:List Cell)(a b:Int)(aq:List Int)(agg c:Int)(ao:List aA):dK pr 208 [.agg [],(aA.mk 4 n aD cells a b aq agg c ao).enc] (only (aA.mk 4 n aD cells a b aq agg c ao)).enc:=by
 refine cX hp rfl rfl ?_;conv=>whnf
 exact⟨_,_,rfl,rfl⟩
theorem Kw(hp:cF pr)(n:Int)(aD:Test)(cells:List Cell)(a b:Int)(aq:List Int)(agg c:Int)(ao:List aA):dK pr 214 [.agg [],(aA.mk 5 n aD cells a b aq agg c ao).enc] (only (aA.mk 5 n aD cells a b aq agg c ao)).enc:=by
 refine cX hp rfl rfl ?_;conv=>whnf
 exact⟨_,_,rfl,rfl⟩
theorem Kx(hp:cF pr)(n:Int)(aD:Test)(cells:List Cell)(a b:Int)(aq:List Int)(agg c:Int)(ao:List aA):dK pr 219 [.agg [],(aA.mk 6 n aD cells a b aq agg c ao).enc] (only (aA.mk 6 n aD cells a b aq agg c ao)).enc:=by
 refine cX hp rfl rfl ?_;conv=>whnf
 exact⟨_,_,rfl,rfl⟩
theorem HF(hp:cF pr)(n:Int)(aD:Test)(cells:List Cell)(a b:Int)(aq:List Int)(agg c:Int)(ao:List aA):dK pr 224 [.agg [],(aA.mk 7 n aD cells a b aq agg c ao).enc] (only (aA.mk 7 n aD cells a b aq agg c ao)).enc:=by
 refine cX hp rfl rfl ?_;conv=>whnf
 exact⟨_,_,rfl,rfl⟩
def nth(ws:List Int)(i:Nat):Int:=(ws[i]?).getD 0
def bU:aA->List Int->Int
 | .mk au n aD cells a b aq agg c _,ws=>
  if au=1 then(if decide (0<=n)&&decide (n<ws.length)then nth ws n.toNat else-1)
  else if au=2 then(if kZ aD (nth ws 0)then nth ws 0 else-1)
  else if au=3 then(if decide (1<=cells.length)&&(decide (cells.length<=6)&&cells.all (fun c=>fe c (nth ws 0)))then(cells.length:Int)else-1)
  else if au=4 then(if col a (nth ws 0)&&col b (nth ws 1)then IntKind.i64.wrap (nth ws 0+nth ws 1)else-1)
  else if au=5 then(if nth ws 0==nth ws 1 then nth ws 0 else-1)
  else if au=6 then nth ws 0
  else(if decide (0<=agg)&&(decide (agg<=3)&&(eU aq (nth ws 0)&&col c (nth ws 0)))then(aq.length:Int)+1 else-1)
theorem yX(hp:cF pr)(n:Int)(aD:Test)(cells:List Cell)(a b:Int)(aq:List Int)(agg c:Int)(ao:List aA)(ws:List Int)(h0:ws≠[])(hl:ws.length<=1048576):
  dK pr 189 [.agg [],(aA.mk 1 n aD cells a b aq agg c ao).enc,.sl (ws.map i64)] (i64 (bU (aA.mk 1 n aD cells a b aq agg c ao) ws)):=by
   have vR:0<ws.length:=List.length_pos_iff.2 h0;have Cq:IntKind.i64.wrap (((ws.map i64).length:Int)-1)=(ws.length:Int)-1:=by rw[aaC];simp;omega
   have Dw:=na hp
   have key: ∀(ok:Bool),ok=(decide (0<=n)&&decide (n<ws.length))-> ∃y,(ws.map i64)[(if(if IntKind.i64.wrap (((ws.map i64).length:Int)-1)<n then IntKind.i64.wrap (((ws.map i64).length:Int)-1)else n)>0 then(if IntKind.i64.wrap (((ws.map i64).length:Int)-1)<n then IntKind.i64.wrap (((ws.map i64).length:Int)-1)else n)else 0).toNat]?=some (i64 y)/\
     0<=(if(if IntKind.i64.wrap (((ws.map i64).length:Int)-1)<n then IntKind.i64.wrap (((ws.map i64).length:Int)-1)else n)>0 then(if IntKind.i64.wrap (((ws.map i64).length:Int)-1)<n then IntKind.i64.wrap (((ws.map i64).length:Int)-1)else n)else 0)/\(if ok then y else-1)=bU (aA.mk 1 n aD cells a b aq agg c ao) ws:=by
      intro ok eb;rw[Cq];generalize hi:(if(if(ws.length:Int)-1<n then(ws.length:Int)-1 else n)>0 then(if(ws.length:Int)-1<n then(ws.length:Int)-1 else n)else 0)=i
      have AB:0<=i/\i<ws.length/\(0<=n->n<ws.length->i=n):=by
       subst hi;refine⟨by split<;>omega,by split<;>(try split)<;>omega,fun _ _=>by split<;>(try split at*)<;>omega⟩
      obtain⟨a1,a2,a3⟩:=AB;have fK:i.toNat<ws.length:=by omega
      refine⟨ws[i.toNat],by simp[fK],a1,?_⟩;have xP:bU (aA.mk 1 n aD cells a b aq agg c ao) ws=if decide (0<=n)&&decide (n<ws.length)then nth ws n.toNat else-1:=rfl
      rw[xP,eb]
      by_cases h:(decide (0<=n)&&decide (n<(ws.length:Int)))=true
      ·rw[if_pos h,if_pos h];simp only[xz,decide_eq_true_eq]at h;obtain rfl:=a3 h.1 h.2;simp[nth,fK]
      ·rw[if_neg h,if_neg h]
   refine cX hp rfl rfl ?_;conv=>whnf
   refine ae (fun g1=>?_) (fun g1=>?_)
   ·conv=>whnf
    refine ae (fun g2=>?_) (fun g2=>?_)
    ·conv=>whnf
     obtain⟨y,k1,k2,k3⟩:=key true (by simp at g1 g2;simp;omega);refine⟨_,k1,k2,rfl,?_⟩;conv=>whnf
     refine⟨_,Dw true y _,?_⟩;conv=>whnf
     exact cu k3
    ·conv=>whnf
     obtain⟨y,k1,k2,k3⟩:=key false (by simp at g1 g2;simp;omega);refine⟨_,k1,k2,rfl,?_⟩;conv=>whnf
     refine⟨_,Dw false y _,?_⟩;conv=>whnf
     exact cu k3
   ·conv=>whnf
    obtain⟨y,k1,k2,k3⟩:=key false (by simp at g1;simp;omega);refine⟨_,k1,k2,rfl,?_⟩;conv=>whnf
    refine⟨_,Dw false y _,?_⟩;conv=>whnf
    exact cu k3
theorem yY(hp:cF pr)(n:Int)(aD:Test)(cells:List Cell)(a b:Int)(aq:List Int)(agg c:Int)(ao:List aA)(w:Int)(ws:List Int):
  dK pr 194 [.agg [],(aA.mk 2 n aD cells a b aq agg c ao).enc,.sl ((w::ws).map i64)] (i64 (bU (aA.mk 2 n aD cells a b aq agg c ao) (w::ws))):=by
   have ht:=NO hp aD w;have Dw:=na hp;refine cX hp rfl rfl ?_;conv=>whnf
   refine⟨i64 w,rfl,by omega,rfl,?_⟩;conv=>whnf
   refine⟨_,ht _,?_⟩;conv=>whnf
   refine ae (fun g1=>?_) (fun g1=>?_)
   ·conv=>whnf
    refine⟨i64 w,rfl,by omega,rfl,?_⟩;conv=>whnf
    refine⟨_,Dw _ w _,?_⟩;conv=>whnf
    exact cu (by simp[bU,nth,g1])
   ·conv=>whnf
    refine⟨i64 w,rfl,by omega,rfl,?_⟩;conv=>whnf
    refine⟨_,Dw _ w _,?_⟩;conv=>whnf
    exact cu (by simp[bU,nth,g1])
theorem Dx(hp:cF pr)(n:Int)(aD:Test)(cells:List Cell)(a b:Int)(aq:List Int)(agg c:Int)(ao:List aA)(w:Int)(ws:List Int)(hl:cells.length<=1048576):
  dK pr 202 [.agg [],(aA.mk 3 n aD cells a b aq agg c ao).enc,.sl ((w::ws).map i64)] (i64 (bU (aA.mk 3 n aD cells a b aq agg c ao) (w::ws))):=by
   have hc:=A1 hp cells w ws hl;have Dw:=fun ok=>na hp ok (cells.map Cell.enc).length;have xP:bU (aA.mk 3 n aD cells a b aq agg c ao) (w::ws)=if decide (1<=cells.length)&&(decide (cells.length<=6)&&cells.all (fun c=>fe c w))then(cells.length:Int)else-1:=rfl
   rw[xP];refine cX hp rfl rfl ?_;conv=>whnf
   refine⟨_,hc.frozen rfl rfl rfl rfl,?_⟩
   iterate 6
    all_goals(try(conv=>whnf))
    all_goals(first|(refine ae (fun hb=>?_) (fun hb=>?_))|(refine⟨_,Dw _ _,?_⟩)|skip)
   all_goals exact cu (by clear hc Dw xP;simp_all;try omega)
def cU(au:Int):Int:=if au=1 then 0 else if au=2∨au=3∨au=6∨au=7 then 1 else if au=4∨au=5 then 2 else-1
theorem fU(k:Int):k=1∨k=2∨k=3∨k=4∨k=5∨k=6∨k=7∨((k==1)=false/\(k==2)=false/\(k==3)=false/\(k==4)=false/\(k==5)=false/\(k==6)=false/\(k==7)=false):=by
 simp only[beq_eq_false_iff_ne,ne_eq];omega
theorem lV(hp:cF pr)(au:Int):dK pr 120 [i64 au] (i64 (cU au)):=by
 refine cX hp rfl rfl ?_;rcases fU au with rfl|rfl|rfl|rfl|rfl|rfl|rfl|⟨h1,h2,h3,h4,h5,h6,h7⟩
 iterate 7
  ·conv=>whnf
   exact cu rfl
 ·conv=>whnf
  refine bm h1 ?_;conv=>whnf
  refine bm h2 ?_;conv=>whnf
  refine bm h3 ?_;conv=>whnf
  refine bm h6 ?_;conv=>whnf
  refine bm h7 ?_;conv=>whnf
  refine bm h4 ?_;conv=>whnf
  refine bm h5 ?_;conv=>whnf
  exact cu (by simp_all[cU])
def Mt(t:Test):Bool:=t.au==0&&(t.no==false&&(t.l.au==0&&(t.l.a==0&&(t.l.b==0&&(t.l.n==0&&(t.r.au==0&&(t.r.a==0&&(t.r.b==0&&(t.r.n==0&&true)))))))))
def clean:aA->Bool
 | .mk au n aD cells a b aq agg col _=>(au==1||n==0)&&((au==2||Mt aD)&&((au==3||cells.isEmpty)&&((au==4||(a==0&&b==0))&&(au==7||(aq.isEmpty&&(agg==0&&col==0))))))
theorem kg(hp:cF pr)(p:aA):dK pr 121 [p.enc] (.bool (clean p)):=by
 obtain⟨au,n,⟨tk,tn,⟨a1,a2,a3,a4⟩,⟨b1,b2,b3,b4⟩⟩,cells,a,b,aq,agg,col,ao⟩:=p;refine cX hp rfl rfl ?_;rcases fU au with rfl|rfl|rfl|rfl|rfl|rfl|rfl|⟨h1,h2,h3,h4,h5,h6,h7⟩
 iterate 7
  ·iterate 12
    all_goals(try(conv=>whnf))
    all_goals(first|(refine ae (fun hb=>?_) (fun hb=>?_))|(refine⟨_,_,wv,rfl,?_⟩)|skip)
   all_goals(try(conv=>whnf))
   all_goals exact bw (by simp_all[clean,Mt])
 ·iterate 19
   all_goals(try(conv=>whnf))
   all_goals(first|(refine bm h1 ?_)|(refine bm h2 ?_)|(refine bm h3 ?_)|(refine bm h4 ?_)|(refine bm h7 ?_)|(refine ae (fun hb=>?_) (fun hb=>?_))|(refine⟨_,_,wv,rfl,?_⟩)|skip)
  all_goals(try(conv=>whnf))
  all_goals exact bw (by simp_all[clean,Mt])
end Go.Proofs.YtfepbikckfehlaaGreat

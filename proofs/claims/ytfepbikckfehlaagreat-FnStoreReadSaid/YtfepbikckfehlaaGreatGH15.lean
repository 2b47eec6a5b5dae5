/- Rows. -/
import Derived.Test.YtfepbikckfehlaaGreatGH14
import Derived.Test.YtfepbikckfehlaaGreatGH13
set_option linter.unusedVariables false
set_option linter.unusedSimpArgs false
set_option maxHeartbeats 4000000
namespace Go.Am
open Go
theorem Fx{h:aC}{n:Nat}{v r:af}(hs:bS h n v=some r)(hr:r.isScalar=true):v=r:=by
 cases n with
 |zero=>cases hs
 |succ n=>
  cases v<;>(try simp only[bS]at hs)
  case map id=>
   split at hs
   ·split at hs
    ·cases hs;cases hr
    ·cases hs
   ·cases hs
  case own id st len=>
   split at hs
   ·split at hs
    ·simp only[ai]at hs;obtain⟨_,_,rfl⟩:=hs;cases hr
    ·cases hs
   ·cases hs
  case ptr id i off=>
   split at hs
   ·split at hs
    ·simp only[ai]at hs;obtain⟨_,_,rfl⟩:=hs;cases hr
    ·cases hs
   ·simp only[ai]at hs;obtain⟨_,_,rfl⟩:=hs;cases hr
   ·cases hs
  case func fn a b=>
   split at hs
   ·cases hs;cases hr
   ·cases hs
  case agg cs=>simp only[ai]at hs;obtain⟨_,_,rfl⟩:=hs;cases hr
  case dX cs=>simp only[ai]at hs;obtain⟨_,_,rfl⟩:=hs;cases hr
  case iface t v=>simp only[ai]at hs;obtain⟨_,_,rfl⟩:=hs;cases hr
  all_goals(first|(cases hs;done)|(cases hs;rfl)|(cases hs;cases hr))
end Go.Am
namespace Go.Proofs.YtfepbikckfehlaaGreat
open Go Go.Am
theorem dm.some{pr:bL}{f:FuncId}{args:List af}{res:af}(hr:dm pr f args res)(hi:cj [] args=some args)(hM:fF f=Am.Mode.P:=by rfl): ∃v h1,call (du pr) f args []=some (.ret v h1)/\snap h1 v=some res:=by
 have h0:=hr [];have hm:(du pr).M f= .P:=hM;unfold bN at h0;simp only[hm,hi]at h0
 cases hc:call (du pr) f args []with
 |none=>rw[hc]at h0;cases h0
 |some q=>
  rw[hc]at h0
  cases q with
  |ret v h1=>
   simp only[ai]at h0;obtain⟨w,hw,he⟩:=h0;cases he
   exact⟨v,h1,rfl,hw⟩
  |iK v h1=>
   simp only[ai]at h0;obtain⟨w,hw,he⟩:=h0;cases he
theorem dm.lE{pr:bL}{f:FuncId}{args cH:List af}{res:af}(hr:dm pr f cH res)(hs:cj [] args=Option.some cH)(hi:cj [] cH=Option.some cH)(hM:fF f=Am.Mode.P:=by rfl):dm pr f args res:=by
 obtain⟨v,h1,hc,hv⟩:=hr.some hi hM;intro h;have hm:(du pr).M f= .P:=hM;unfold bN;simp only[hm,hs,hc,hv,bh]
theorem dm.frozen{pr:bL}{f:FuncId}{args cH:List af}{res:af}{h:aC}(hr:dm pr f cH res)(hn:cj [] args=Option.none)(hs:cj h args=Option.some cH)(hi:cj [] cH=Option.some cH)(aN:res.isScalar=true)(hM:fF f=Am.Mode.P:=by rfl):
  bN (du pr) (call (du pr)) f args h=Option.some (.ret res h):=by
   obtain⟨v,h1,hc,hv⟩:=hr.some hi hM;obtain rfl:=Fx hv aN;have hm:(du pr).M f= .P:=hM;have qM:v.QK=true:=by cases v<;>first|exact aN|cases aN
   unfold bN;simp only[hm,hn,hs,hc,qM,if_true]
variable{pr:bL}(hp:bV pr)
set_option maxRecDepth 100000
def Dd(v:Int)(k:Int):List Int->Int
 | []=>-1
 |x::xs=>if v==x then k else Dd v (k+1) xs
theorem Fy(v:Int): ∀(xs:List Int)(k:Int),0<=k->(Dd v k xs>=0↔xs.contains v=true)
 | [],k,_=>by simp[Dd]
 |x::xs,k,hk=>by
  have ih:=Fy v xs (k+1) (by omega);rw[List.contains_cons];unfold Dd
  by_cases h:(v==x)=true
  ·rw[if_pos h];simp[h];exact hk
  ·rw[if_neg h];simp only[Bool.eq_false_iff.2 h,Bool.false_or];exact ih
theorem Rr(v:Int)(xs:List Int)(k:Int)(hk:0<=k):decide (Dd v k xs>=0)=xs.contains v:=by
 rw[Bool.eq_iff_iff,decide_eq_true_iff];exact Fy v xs k hk
theorem Rs(hp:bV pr)(xs:List Int)(v:Int)(hl:xs.length<=1048576):dm pr 229 [.sl (xs.map i64),i64 v] (i64 (Dd v 0 xs)):=by
 refine bY hp rfl rfl ?_;conv=>whnf
 refine dJ (fun m st=>∃j:Nat,j+m=xs.length/\st.tm 0= .sl (xs.map i64)/\st.tm 1=i64 v/\st.tm 7=i64 ((xs.map i64).length:Nat)/\st.tm 8=i64 (j:Nat)/\st.hp=[]/\Dd v 0 xs=Dd v (j:Nat) (xs.drop j)) (fun m st hI=>?_) (xs.length) _ ⟨0,by simp,(by first|kernel_rfl|rfl|simp),(by first|kernel_rfl|rfl|simp),(by first|kernel_rfl|rfl|simp),(by first|kernel_rfl|rfl|simp),(by first|kernel_rfl|rfl|simp),(by first|rfl|simp)⟩;obtain⟨j,hj,e0,e1,e7,e8,hh,aD⟩:=hI;obtain⟨tm,hq⟩:=st;simp only at e0 e1 e7 e8 hh;subst hh;rw[show tm=eU (eU (eU (eU tm 0 (.sl (xs.map i64))) 1 (i64 v)) 7 (i64 ((xs.map i64).length:Nat))) 8 (i64 (j:Nat)) by rw[aP e0,aP e1,aP e7,aP e8]];clear e0 e1 e7 e8;conv=>whnf
 refine ae (fun h1=>?_) (fun h1=>?_)
 ·have bq:j<xs.length:=by simpa using h1
  rw[ar bq]at aD;simp only[Dd]at aD;conv=>whnf
  refine⟨i64 xs[j],by simp[bq],by omega,rfl,?_⟩;conv=>whnf
  refine ae (fun h2=>?_) (fun h2=>?_)
  ·conv=>whnf
   exact bR (by rw[aD,h2];rfl)
  ·conv=>whnf
   exact⟨m-1,by omega,j+1,by omega,rfl,rfl,rfl,aQ j (by omega),rfl,by rw[aD,h2];rfl⟩
 ·have bq:j=xs.length:=by have: ¬j<xs.length:=by simpa using h1
                          omega
  subst bq;rw[aL]at aD;conv=>whnf
  exact bR (by rw[aD];rfl)
theorem IP(hp:bV pr)(xs:List Int)(v:Int)(hl:xs.length<=1048576):dm pr 228 [.sl (xs.map i64),i64 v] (.bool (xs.contains v)):=by
 refine bY hp rfl rfl ?_;rw[<-Rr v xs 0 (Int.le_refl 0)]
 iterate 3
  all_goals(try(conv=>whnf))
  all_goals(first|(refine ae (fun hb=>?_) (fun hb=>?_))|(refine⟨_,Rs hp xs v hl _,?_⟩)|skip)
 all_goals exact bo hb.symm
theorem L7(hp:bV pr)(xs:List Int)(wide:Int)(hl:xs.length<=1048576):dm pr 227 [.sl (xs.map i64),i64 wide] (.bool (dY xs wide)):=by
 refine bY hp rfl rfl ?_;conv=>whnf
 refine ae (fun h0=>?_) (fun h0=>?_)
 ·have cx: ¬xs.length<6:=by
   have:((xs.map i64).length:Int)>=6:=by simpa using h0
   simp at this;omega
  conv=>whnf
  exact bo (by simp[dY,cx])
 have eH:xs.length<6:=by
  have: ¬((xs.map i64).length:Int)>=6:=by simpa using h0
  simp at this;omega
 have TT:dY xs wide=jJ [] wide xs:=by simp[dY,eH]
 rw[TT];conv=>whnf
 refine dJ (fun m st=>∃j:Nat,j+m=xs.length/\st.tm 0= .sl (xs.map i64)/\st.tm 1=i64 wide/\st.tm 10= .sl (xs.map i64)/\st.tm 11=i64 ((xs.map i64).length:Nat)/\st.tm 12=i64 (j:Nat)/\st.hp=[]/\jJ [] wide xs=jJ (xs.take j) wide (xs.drop j)) (fun m st hI=>?_) (xs.length) _ ⟨0,by simp,(by first|kernel_rfl|rfl|simp),(by first|kernel_rfl|rfl|simp),(by first|kernel_rfl|rfl|simp),(by first|kernel_rfl|rfl|simp),(by first|kernel_rfl|rfl|simp),(by first|kernel_rfl|rfl|simp),(by first|rfl|simp)⟩;obtain⟨j,hj,e0,e1,qX,IQ,qN,hh,aD⟩:=hI;obtain⟨tm,hq⟩:=st;simp only at e0 e1 qX IQ qN hh;subst hh;rw[show tm=eU (eU (eU (eU (eU tm 0 (.sl (xs.map i64))) 1 (i64 wide)) 10 (.sl (xs.map i64))) 11 (i64 ((xs.map i64).length:Nat))) 12 (i64 (j:Nat)) by rw[aP e0,aP e1,aP qX,aP IQ,aP qN]];clear e0 e1 qX IQ qN;conv=>whnf
 refine ae (fun h1=>?_) (fun h1=>?_)
 ·have bq:j<xs.length:=by simpa using h1
  rw[ar bq]at aD;simp only[jJ]at aD;conv=>whnf
  refine⟨i64 xs[j],by simp[bq],by omega,rfl,?_⟩;conv=>whnf
  refine⟨_,mL hp xs[j] wide _,?_⟩;conv=>whnf
  refine ae (fun h2=>?_) (fun h2=>?_)
  ·rw[h2,aX]at aD;conv=>whnf
   refine⟨⟨Int.le_refl 0,by show(0:Int)<=((j:Nat):Int);omega,by show((j:Nat):Int)<=_;simp;omega,aG.2 fun y hy=>?_⟩,?_⟩
   ·obtain⟨z,_,rfl⟩:=bj.1 hy;rfl
   have tW:(af.sl (((xs.map i64).drop (0:Int).toNat).take (((j:Nat):Int).toNat-(0:Int).toNat)))= .sl ((xs.take j).map i64):=by
    rw[aq];show af.sl (((xs.map i64).drop 0).take (j-0))=_;rw[List.drop_zero,Nat.sub_zero,List.map_take]
   have hct:dm pr 228 [af.sl (((xs.map i64).drop (0:Int).toNat).take (((j:Nat):Int).toNat-(0:Int).toNat)),i64 xs[j]] (.bool ((xs.take j).contains xs[j])):=by
    rw[tW];exact IP hp (xs.take j) xs[j] (by simp;omega)
   conv=>whnf
   refine⟨_,hct _,?_⟩;conv=>whnf
   refine ae (fun h3=>?_) (fun h3=>?_)
   ·conv=>whnf
    exact bo (by rw[aD,h3];rfl)
   ·conv=>whnf
    refine⟨m-1,by omega,j+1,by omega,rfl,rfl,rfl,rfl,aQ j (by omega),rfl,?_⟩;have Zh:xs.take (j+1)=xs.take j++[xs[j]]:=(List.take_append_getElem bq).symm;rw[aD,h3,Zh];rfl
  ·conv=>whnf
   exact bo (by rw[aD,h2];rfl)
 ·have bq:j=xs.length:=by have: ¬j<xs.length:=by simpa using h1
                          omega
  subst bq;rw[aL]at aD;conv=>whnf
  exact bo (by rw[aD];rfl)
def KD(ws:List Int):af:=.func (.func 204) [] [.eY [.sl (ws.map i64)] 0 0]
theorem Rt(hp:bV pr)(c:Cell)(w:Int)(ws:List Int):dm pr 204 [c.enc,.eY [.sl ((w::ws).map i64)] 0 0] (.bool (!d9 c w)):=by
 have h:=wc hp c w;obtain⟨k,a,b,n⟩:=c;refine bY hp rfl rfl ?_;conv=>whnf
 refine⟨i64 w,rfl,by omega,rfl,?_⟩
 iterate 3
  all_goals(try(conv=>whnf))
  all_goals(first|(refine ae (fun hb=>?_) (fun hb=>?_))|(refine⟨_,h _,?_⟩)|skip)
 all_goals exact bo (by rw[hb])
def De(w:Int)(k:Int):List Cell->Int
 | []=>-1
 |c::cs=>if !d9 c w then k else De w (k+1) cs
theorem Fz(w:Int): ∀(xs:List Cell)(k:Int),0<=k->(De w k xs>=0↔(!xs.all (fun c=>d9 c w))=true)
 | [],k,_=>by simp[De]
 |x::xs,k,hk=>by
  have ih:=Fz w xs (k+1) (by omega);rw[List.all_cons];unfold De
  by_cases h:d9 x w=true
  ·rw[if_neg (by simp[h])];simp only[h,aX];exact ih
  ·rw[if_pos (by simp[h])];simp only[Bool.eq_false_iff.2 h,Bool.false_and,Bool.not_false,iff_true];exact hk
theorem Ru(w:Int)(xs:List Cell)(k:Int)(hk:0<=k):decide (De w k xs>=0)= !xs.all (fun c=>d9 c w):=by
 rw[Bool.eq_iff_iff,decide_eq_true_iff];exact Fz w xs k hk
theorem FC(hp:bV pr)(xs:List Cell)(w:Int)(ws:List Int)(hl:xs.length<=1048576):dm pr 205 [.sl (xs.map Cell.enc),KD (w::ws)] (i64 (De w 0 xs)):=by
 refine bY hp rfl rfl ?_;conv=>whnf
 refine dJ (fun m st=>∃j:Nat,j+m=xs.length/\st.tm 0= .sl (xs.map Cell.enc)/\st.tm 1=KD (w::ws)/\st.tm 7=i64 ((xs.map Cell.enc).length:Nat)/\st.tm 8=i64 (j:Nat)/\st.hp=[]/\De w 0 xs=De w (j:Nat) (xs.drop j)) (fun m st hI=>?_) (xs.length) _ ⟨0,by simp,(by first|kernel_rfl|rfl|simp),(by first|kernel_rfl|rfl|simp),(by first|kernel_rfl|rfl|simp),(by first|kernel_rfl|rfl|simp),(by first|kernel_rfl|rfl|simp),(by first|rfl|simp)⟩;obtain⟨j,hj,e0,e1,e7,e8,hh,aD⟩:=hI;obtain⟨tm,hq⟩:=st;simp only at e0 e1 e7 e8 hh;subst hh;rw[show tm=eU (eU (eU (eU tm 0 (.sl (xs.map Cell.enc))) 1 (KD (w::ws))) 7 (i64 ((xs.map Cell.enc).length:Nat))) 8 (i64 (j:Nat)) by rw[aP e0,aP e1,aP e7,aP e8]];clear e0 e1 e7 e8;conv=>whnf
 refine ae (fun h1=>?_) (fun h1=>?_)
 ·have bq:j<xs.length:=by simpa using h1
  rw[ar bq]at aD;simp only[De]at aD;conv=>whnf
  refine⟨(xs[j]).enc,by simp[bq],by omega,rfl,?_⟩;conv=>whnf
  refine⟨_,Rt hp xs[j] w ws _,?_⟩;conv=>whnf
  refine ae (fun h2=>?_) (fun h2=>?_)
  ·conv=>whnf
   exact bR (by rw[aD,h2];rfl)
  ·conv=>whnf
   exact⟨m-1,by omega,j+1,by omega,rfl,rfl,rfl,aQ j (by omega),rfl,by rw[aD,h2];rfl⟩
 ·have bq:j=xs.length:=by have: ¬j<xs.length:=by simpa using h1
                          omega
  subst bq;rw[aL]at aD;conv=>whnf
  exact bR (by rw[aD];rfl)
theorem zE(hp:bV pr)(xs:List Cell)(w:Int)(ws:List Int)(hl:xs.length<=1048576):dm pr 203 [.sl (xs.map Cell.enc),KD (w::ws)] (.bool (!xs.all (fun c=>d9 c w))):=by
 refine bY hp rfl rfl ?_;rw[<-Ru w xs 0 (Int.le_refl 0)]
 iterate 3
  all_goals(try(conv=>whnf))
  all_goals(first|(refine ae (fun hb=>?_) (fun hb=>?_))|(refine⟨_,FC hp xs w ws hl _,?_⟩)|skip)
 all_goals exact bo hb.symm
end Go.Proofs.YtfepbikckfehlaaGreat
set_option maxHeartbeats 4000000
namespace Go.Proofs.YtfepbikckfehlaaGreat
open Go Go.Am
def cG{α β:Type}(f:α->β->Bool):List α->List β->Bool
 | [],[]=>true
 |a::us,b::vs=>f a b&&cG f us vs
 |_,_=>false
theorem zF{α β:Type}{f:α->β->Bool}: ∀{us:List α}{vs:List β},cG f us vs=true->us.length=vs.length
 | [],[],_=>rfl
 |a::us,b::vs,h=>by
  simp only[cG,aj]at h
  simp[zF h.2]
 | [],_::_,h=>by cases h
 |_::_,[],h=>by cases h
theorem lx{α β:Type}{f:α->β->Bool}{us:List α}{vs:List β}(h:us.length≠vs.length):cG f us vs=false:=by
 cases hq:cG f us vs with
 |false=>rfl
 |true=>exact absurd (zF hq) h
theorem iU{α β:Type}{f:α->β->Bool}{us:List α}{vs:List β}{j:Nat}(ha:j<us.length)(hb:j<vs.length):cG f (us.drop j) (vs.drop j)=(f us[j] vs[j]&&cG f (us.drop (j+1)) (vs.drop (j+1))):=by
 rw[ar ha,ar hb];rfl
theorem jL{α β:Type}{f:α->β->Bool}{us:List α}{vs:List β}(h:us.length=vs.length):cG f (us.drop us.length) (vs.drop us.length)=true:=by
 rw[aL,h,aL];rfl
variable{pr:bL}(hp:bV pr)
set_option maxRecDepth 100000
theorem OR(hp:bV pr)(xs ys:List Int)(hl:xs.length<=1048576):dm pr 39 [.sl (xs.map i64),.sl (ys.map i64)] (.bool (cG (· == ·) xs ys)):=by
 refine bY hp rfl rfl ?_;conv=>whnf
 refine ae (fun h0=>?_) (fun h0=>?_)
 ·conv=>whnf
  exact bo (lx (by simp at h0;omega)).symm
 have hlen:xs.length=ys.length:=by simp at h0;omega
 conv=>whnf
 refine dJ (fun m st=>∃j:Nat,j+m=xs.length/\st.tm 0= .sl (xs.map i64)/\st.tm 1= .sl (ys.map i64)/\st.tm 12=i64 ((xs.map i64).length:Nat)/\st.tm 13=i64 (j:Nat)/\st.hp=[]/\cG (· == ·) xs ys=cG (· == ·) (xs.drop j) (ys.drop j)) (fun m st hI=>?_) (xs.length) _ ⟨0,by simp,(by first|kernel_rfl|rfl|simp),(by first|kernel_rfl|rfl|simp),(by first|kernel_rfl|rfl|simp),(by first|kernel_rfl|rfl|simp),(by first|kernel_rfl|rfl|simp),(by first|rfl|simp)⟩;obtain⟨j,hj,e0,e1,qN,L8,hh,aD⟩:=hI;obtain⟨tm,hq⟩:=st;simp only at e0 e1 qN L8 hh;subst hh;rw[show tm=eU (eU (eU (eU tm 0 (.sl (xs.map i64))) 1 (.sl (ys.map i64))) 12 (i64 ((xs.map i64).length:Nat))) 13 (i64 (j:Nat)) by rw[aP e0,aP e1,aP qN,aP L8]];clear e0 e1 qN L8;conv=>whnf
 refine ae (fun h1=>?_) (fun h1=>?_)
 ·have bq:j<xs.length:=by simpa using h1
  rw[iU bq (by omega)]at aD;conv=>whnf
  refine⟨i64 xs[j],by simp[bq],by omega,rfl,?_⟩;conv=>whnf
  refine⟨i64 ys[j],by simp[show j<ys.length by omega],by omega,rfl,?_⟩;conv=>whnf
  refine ae (fun h2=>?_) (fun h2=>?_)
  ·have h3:(xs[j]==ys[j])=false:=by simpa using h2
   conv=>whnf
   exact bo (by rw[aD,h3];rfl)
  ·have h3:(xs[j]==ys[j])=true:=by simpa using h2
   conv=>whnf
   exact⟨m-1,by omega,j+1,by omega,rfl,rfl,rfl,aQ j (by omega),rfl,by rw[aD,h3];rfl⟩
 ·have bq:j=xs.length:=by have: ¬j<xs.length:=by simpa using h1
                          omega
  subst bq;rw[jL hlen]at aD;conv=>whnf
  exact bo aD.symm
def jm(c d:Cell):Bool:=c.aw==d.aw&&(c.a==d.a&&(c.b==d.b&&(c.n==d.n&&true)))
theorem L9(hp:bV pr)(xs ys:List Cell)(hl:xs.length<=1048576):dm pr 103 [.sl (xs.map Cell.enc),.sl (ys.map Cell.enc)] (.bool (cG jm xs ys)):=by
 refine bY hp rfl rfl ?_;conv=>whnf
 refine ae (fun h0=>?_) (fun h0=>?_)
 ·conv=>whnf
  exact bo (lx (by simp at h0;omega)).symm
 have hlen:xs.length=ys.length:=by simp at h0;omega
 conv=>whnf
 refine dJ (fun m st=>∃j:Nat,j+m=xs.length/\st.tm 0= .sl (xs.map Cell.enc)/\st.tm 1= .sl (ys.map Cell.enc)/\st.tm 12=i64 ((xs.map Cell.enc).length:Nat)/\st.tm 13=i64 (j:Nat)/\st.hp=[]/\cG jm xs ys=cG jm (xs.drop j) (ys.drop j)) (fun m st hI=>?_) (xs.length) _ ⟨0,by simp,(by first|kernel_rfl|rfl|simp),(by first|kernel_rfl|rfl|simp),(by first|kernel_rfl|rfl|simp),(by first|kernel_rfl|rfl|simp),(by first|kernel_rfl|rfl|simp),(by first|rfl|simp)⟩;obtain⟨j,hj,e0,e1,qN,L8,hh,aD⟩:=hI;obtain⟨tm,hq⟩:=st;simp only at e0 e1 qN L8 hh;subst hh;rw[show tm=eU (eU (eU (eU tm 0 (.sl (xs.map Cell.enc))) 1 (.sl (ys.map Cell.enc))) 12 (i64 ((xs.map Cell.enc).length:Nat))) 13 (i64 (j:Nat)) by rw[aP e0,aP e1,aP qN,aP L8]];clear e0 e1 qN L8;conv=>whnf
 refine ae (fun h1=>?_) (fun h1=>?_)
 ·have bq:j<xs.length:=by simpa using h1
  rw[iU bq (by omega)]at aD;conv=>whnf
  refine⟨(xs[j]).enc,by simp[bq],by omega,rfl,?_⟩;conv=>whnf
  refine⟨(ys[j]).enc,by simp[show j<ys.length by omega],by omega,rfl,?_⟩;conv=>whnf
  refine⟨_,jm xs[j] ys[j],zB,rfl,?_⟩;refine ae (fun h2=>?_) (fun h2=>?_)
  ·conv=>whnf
   exact⟨m-1,by omega,j+1,by omega,rfl,rfl,rfl,aQ j (by omega),rfl,by rw[aD,h2];rfl⟩
  ·conv=>whnf
   exact bo (by rw[aD,h2];rfl)
 ·have bq:j=xs.length:=by have: ¬j<xs.length:=by simpa using h1
                          omega
  subst bq;rw[jL hlen]at aD;conv=>whnf
  exact bo aD.symm
def tB(s t:Test):Bool:=s.aw==t.aw&&(s.no==t.no&&(s.l.aw==t.l.aw&&(s.l.a==t.l.a&&(s.l.b==t.l.b&&(s.l.n==t.l.n&&(s.r.aw==t.r.aw&&(s.r.a==t.r.a&&(s.r.b==t.r.b&&(s.r.n==t.r.n&&true)))))))))
mutual
def eb:ax->ax->Bool
 | .mk aw n aA cells a b ao agg c al,q=>(aw==q.aw&&(n==q.n&&(tB aA q.aA&&(a==q.a&&(b==q.b&&(agg==q.agg&&c==q.col))))))&&(cG jm cells q.cells&&(cG (· == ·) ao q.ao&&oi al q.al))
def oi:List ax->List ax->Bool
 | [],[]=>true
 |p::ps,q::qs=>eb p q&&oi ps qs
 |_,_=>false
end
theorem ly: ∀(ps qs:List ax),oi ps qs=cG eb ps qs
 | [],[]=>rfl
 |p::ps,q::qs=>by simp only[oi,cG,ly ps qs]
 | [],_::_=>rfl
 |_::_,[]=>rfl
def OS:af:=.func (.func 71) [] []
theorem FE(hp:bV pr)(xs ys:List ax)(hl:xs.length<=1048576)(ih: ∀p∈xs,∀q,dm pr 71 [p.enc,q.enc] (.bool (eb p q))):
  dm pr 104 [.sl (ax.cz xs),.sl (ax.cz ys),OS] (.bool (oi xs ys)):=by
   rw[ly];have hx:=dM xs;have hy:=dM ys;refine bY hp rfl rfl ?_;conv=>whnf
   refine ae (fun h0=>?_) (fun h0=>?_)
   ·conv=>whnf
    exact bo (lx (by simp at h0;omega)).symm
   have hlen:xs.length=ys.length:=by simp at h0;omega
   conv=>whnf
   refine zw true (fun m st=>∃j:Nat,j+m=xs.length/\st.tm 0= .sl (ax.cz xs)/\st.tm 1= .sl (ax.cz ys)/\st.tm 2=OS/\st.tm 15= .sl (ax.cz xs)/\st.tm 16=i64 ((ax.cz xs).length:Nat)/\st.tm 17=i64 (j:Nat)/\cG eb xs ys=cG eb (xs.drop j) (ys.drop j)) (fun m st hI=>?_) xs.length _ ⟨0,by simp,rfl,rfl,rfl,rfl,rfl,rfl,rfl⟩;obtain⟨j,hj,e0,e1,e2,Zi,Zj,Vx,aD⟩:=hI;obtain⟨tm,hq⟩:=st;simp only at e0 e1 e2 Zi Zj Vx;rw[show tm=eU (eU (eU (eU (eU (eU tm 0 (.sl (ax.cz xs))) 1 (.sl (ax.cz ys))) 2 OS) 15 (.sl (ax.cz xs))) 16 (i64 ((ax.cz xs).length:Nat))) 17 (i64 (j:Nat)) by rw[aP e0,aP e1,aP e2,aP Zi,aP Zj,aP Vx]];clear e0 e1 e2 Zi Zj Vx;conv=>whnf
   refine ae (fun h1=>?_) (fun h1=>?_)
   ·have bq:j<xs.length:=by have:j<(ax.cz xs).length:=by simpa using h1
                            omega
    have Nt:j<ys.length:=by omega
    rw[iU bq Nt]at aD;have eI:=ih xs[j] (ay bq) ys[j];have g1:(ax.cz xs)[((j:Nat):Int).toNat]?=some xs[j].enc:=by rw[aq,eK,au bq];rfl
    have g2:(ax.cz ys)[((j:Nat):Int).toNat]?=some ys[j].enc:=by rw[aq,eK,au Nt];rfl
    generalize xs[j]=p at eI aD g1;generalize ys[j]=q at eI aD g2;obtain⟨aw,n,aA,cells,a,b,ao,agg,c,al⟩:=p;obtain⟨cd,n',cr,bK,a',b',cm,cX,c',bU⟩:=q;conv=>whnf
    refine⟨_,g1,by omega,rfl,?_⟩;conv=>whnf
    intro k1 q1 dw zn;conv=>whnf
    refine⟨_,rfl,rfl,rfl,.inl ⟨_,fA dw zn,rfl,?_⟩⟩;conv=>whnf
    intro q2 pg;conv=>whnf
    refine⟨_,g2,by omega,rfl,?_⟩;conv=>whnf
    intro k3 q3 kS A2;conv=>whnf
    refine⟨_,rfl,rfl,rfl,.inl ⟨_,fA kS A2,rfl,?_⟩⟩;conv=>whnf
    intro q4 Vu
    have n13:k3≠k1:=by
     have a1:=fX (fK pg (fA dw zn));omega
    conv=>whnf
    refine .inl ⟨_,lr Vu (ig A2 (fK pg (fA dw zn))) n13,rfl,?_⟩;conv=>whnf
    refine .inl ⟨_,fK Vu (fA kS A2),rfl,?_⟩;conv=>whnf
    refine⟨_,eI _,?_⟩;conv=>whnf
    refine ae (fun h2=>?_) (fun h2=>?_)
    ·conv=>whnf
     exact⟨m-1,by omega,j+1,by omega,rfl,rfl,rfl,rfl,rfl,aQ j (by omega),by rw[aD,h2];rfl⟩
    ·conv=>whnf
     exact bo (by rw[aD,h2];rfl)
   ·have bq:j=xs.length:=by have: ¬j<(ax.cz xs).length:=by simpa using h1
                            omega
    subst bq;rw[jL hlen]at aD;conv=>whnf
    exact bo aD.symm
theorem FG(hp:bV pr): ∀(N:Nat)(p:ax),SizeOf.sizeOf p<=N->p.small-> ∀q,dm pr 71 [p.enc,q.enc] (.bool (eb p q)):=by
 intro N
 induction N with
 |zero=>intro p h;exfalso;cases p;simp at h
 |succ N ih=>
  intro p hs fm q;obtain⟨aw,n,aA,cells,a,b,ao,agg,c,al⟩:=p;obtain⟨cd,n',cr,bK,a',b',cm,cX,c',bU⟩:=q;obtain⟨qM,jK,fL,fB⟩:=dK fm;have hc:=L9 hp cells bK qM;have hk:=OR hp ao cm jK;have hf:=FE hp al bU fL fun p SY q=>ih p (by have:=List.sizeOf_lt_of_mem SY;simp at hs;omega) (fB p SY) q;refine bY hp rfl rfl ?_
  iterate 22
   all_goals(try(conv=>whnf))
   all_goals(first|(refine ae (fun hb=>?_) (fun hb=>?_))|(refine⟨_,tB aA cr,uE,rfl,?_⟩)|(refine⟨_,hc _,?_⟩)|(refine⟨_,hk _,?_⟩)|(refine⟨_,hf _,?_⟩)|skip)
  all_goals exact bo (by clear hc hk hf ih hs fm fB qM jK fL;simp_all[eb,ax.aw,ax.n,ax.aA,ax.cells,ax.a,ax.b,ax.ao,ax.agg,ax.col,ax.al])
theorem zG(hp:bV pr)(p q:ax)(fm:p.small):dm pr 71 [p.enc,q.enc] (.bool (eb p q)):=FG hp _ p (aB _) fm q
end Go.Proofs.YtfepbikckfehlaaGreat
set_option maxHeartbeats 4000000
namespace Go.Proofs.YtfepbikckfehlaaGreat
open Go Go.Am
variable{pr:bL}(hp:bV pr)
set_option maxRecDepth 100000
def ng:List Int->List Int->Int
 |x::xs,y::ys=>if x<y then-1 else if y<x then 1 else ng xs ys
 |xs,ys=>(xs.length:Int)-(ys.length:Int)
theorem sk: ∀(xs ys:List Int),(ng xs ys==0)=cG (· == ·) xs ys
 | [],[]=>rfl
 | [],y::ys=>by
  have h:(ng [] (y::ys)==0)=false:=by simp[ng];omega
  rw[h];rfl
 |x::xs,[]=>by
  have h:(ng (x::xs) []==0)=false:=by simp[ng];omega
  rw[h];rfl
 |x::xs,y::ys=>by
  simp only[ng,cG];rw[<-sk xs ys];rcases Int.lt_trichotomy x y with h|h|h
  ·rw[if_pos h];simp;omega
  ·subst h;simp
  ·rw[if_neg (by omega),if_pos h];simp;omega
theorem OT{xs ys:List Int}(h:xs=[]∨ys=[]):ng xs ys=(xs.length:Int)-(ys.length:Int):=by
 rcases h with rfl|rfl
 ·cases ys<;>rfl
 ·cases xs<;>rfl
theorem we(hp:bV pr)(xs ys:List Int)(hx:xs.length<=9223372036854775807)(hy:ys.length<=9223372036854775807)(hl:xs.length<=1000000000):dm pr 73 [.sl (xs.map i64),.sl (ys.map i64)] (i64 (ng xs ys)):=by
 refine bY hp rfl rfl ?_;conv=>whnf
 refine dJ (fun m st=>∃j:Nat,j+m=xs.length/\j<=ys.length/\st.tm 0= .sl (xs.map i64)/\st.tm 1= .sl (ys.map i64)/\st.tm 5=i64 (j:Nat)/\st.hp=[]/\ng xs ys=ng (xs.drop j) (ys.drop j)) (fun m st hI=>?_) xs.length _ ⟨0,by simp,by simp,rfl,rfl,rfl,rfl,rfl⟩;obtain⟨j,hj,hjy,e0,e1,e5,hh,aD⟩:=hI;obtain⟨tm,hq⟩:=st;simp only at e0 e1 e5 hh;subst hh;rw[show tm=eU (eU (eU tm 0 (.sl (xs.map i64))) 1 (.sl (ys.map i64))) 5 (i64 (j:Nat)) by rw[aP e0,aP e1,aP e5]];clear e0 e1 e5
 have fR:xs.drop j=[]∨ys.drop j=[]->IntKind.i64.wrap (((xs.map i64).length:Int)-((ys.map i64).length:Int))=ng xs ys:=fun h=>by
  rw[aD,OT h,aY];simp;omega
 conv=>whnf
 refine ae (fun h1=>?_) (fun h1=>?_)
 ·have bq:j<xs.length:=by simpa using h1
  conv=>whnf
  refine ae (fun h2=>?_) (fun h2=>?_)
  ·have Nt:j<ys.length:=by simpa using h2
   have g1:(xs.map i64)[((j:Nat):Int).toNat]?=some (i64 xs[j]):=by rw[aq];simp[bq]
   have g2:(ys.map i64)[((j:Nat):Int).toNat]?=some (i64 ys[j]):=by rw[aq];simp[Nt]
   rw[ar bq,ar Nt]at aD;generalize xs[j]=x at g1 aD;generalize ys[j]=y at g2 aD;conv=>whnf
   refine⟨_,g1,by omega,rfl,?_⟩;conv=>whnf
   refine⟨_,g2,by omega,rfl,?_⟩;conv=>whnf
   refine ae (fun h3=>?_) (fun h3=>?_)
   ·have X4:x<y:=by simpa using h3
    conv=>whnf
    exact bR (by rw[aD];simp[ng,X4])
   ·have X4: ¬x<y:=by simpa using h3
    conv=>whnf
    refine⟨_,g1,by omega,rfl,?_⟩;conv=>whnf
    refine⟨_,g2,by omega,rfl,?_⟩;conv=>whnf
    refine ae (fun h4=>?_) (fun h4=>?_)
    ·have Zk:y<x:=by simpa using h4
     conv=>whnf
     exact bR (by rw[aD];simp[ng,X4,Zk])
    ·have Zk: ¬y<x:=by simpa using h4
     conv=>whnf
     exact⟨m-1,by omega,j+1,by omega,by omega,rfl,rfl,aQ j (by omega),rfl,by rw[aD];simp[ng,X4,Zk]⟩
  ·have Nt:ys.length<=j:=by simpa using h2
   conv=>whnf
   exact bR (fR (.inr (List.drop_eq_nil_of_le Nt)))
 ·have bq:xs.length<=j:=by simpa using h1
  conv=>whnf
  exact bR (fR (.inl (List.drop_eq_nil_of_le bq)))
theorem OU(hp:bV pr)(xs ys:List Int)(hx:xs.length<=1000000000)(hy:ys.length<=1000000000):dm pr 42 [.sl (xs.map i64),.sl (ys.map i64)] (.bool (cG (· == ·) xs ys)):=by
 have h1:=we hp xs ys (by omega) (by omega) hx;refine bY hp rfl rfl ?_;conv=>whnf
 refine⟨_,h1 _,?_⟩;conv=>whnf
 refine ae (fun h2=>?_) (fun h2=>?_)
 ·conv=>whnf
  exact bo (by rw[<-sk];exact h2.symm)
 ·conv=>whnf
  exact bo (by rw[<-sk];exact h2.symm)
abbrev cM:Nat:=1000000000
def nh(r:List Int):Bool:=decide (1<=r.length)&&(decide (r.length<=6)&&r.all bE)
def eg(a b:List Int):Bool:=decide (ng a b<0)
def eS(a b:List Int):Bool:=cG (· == ·) a b
def WG:af:=.func (.func 67) [] []
theorem Ud(hp:bV pr)(n:Int):dm pr 67 [i64 n] (.bool (!bE n)):=by
 refine ea hp rfl rfl ?_;have S:ah [] []:=ah.nil []
 iterate 3
  all_goals(try(conv=>whnf))
  all_goals(first|(intro ke cg er bn;replace S:=S.alloc er bn)|(refine .inl ⟨_,S.row 0 rfl,rfl,?_⟩)|(refine .inl ⟨_,S.row 1 rfl,rfl,?_⟩)|(refine .inl ⟨_,S.row 2 rfl,rfl,?_⟩)|(refine .inl ⟨_,S.row 3 rfl,rfl,?_⟩)|(refine .inl ⟨_,S.row 4 rfl,rfl,?_⟩)|(refine⟨_,rfl,rfl,rfl,.inl ⟨_,S.row 0 rfl,rfl,?_⟩⟩;(conv=>whnf);intro cg bn;replace S:=S.w0 bn)|(refine⟨_,rfl,rfl,rfl,.inl ⟨_,S.row 1 rfl,rfl,?_⟩⟩;(conv=>whnf);intro cg bn;replace S:=S.w1 bn)|(refine⟨_,rfl,rfl,rfl,.inl ⟨_,S.row 2 rfl,rfl,?_⟩⟩;(conv=>whnf);intro cg bn;replace S:=S.w2 bn)|(refine⟨_,rfl,rfl,rfl,.inl ⟨_,S.row 3 rfl,rfl,?_⟩⟩;(conv=>whnf);intro cg bn;replace S:=S.w3 bn)|(refine⟨_,rfl,rfl,rfl,.inl ⟨_,S.row 4 rfl,rfl,?_⟩⟩;(conv=>whnf);intro cg bn;replace S:=S.w4 bn)|(refine ae (fun hb=>?_) (fun hb=>?_))|(refine⟨_,Fv hp n _,?_⟩)|skip)
 all_goals exact bH (by simp_all)
theorem IS(hp:bV pr)(xs:List Int)(hl:xs.length<=cM):dm pr 101 [.sl (xs.map i64),WG] (i64 (na (fun n=>!bE n) 0 xs)):=by
 refine ea hp rfl rfl ?_;have S:ah [] []:=ah.nil [];conv=>whnf
 refine ga (fun m tm hp=>∃(j:Nat),j+m=xs.length/\tm 8=i64 (j:Nat)/\(na (fun n=>!bE n) 0 xs=na (fun n=>!bE n) (j:Nat) (xs.drop j))) (fun m tm hq bz hI=>?_) (xs.length) ⟨0,by simp,(by first|rfl|kernel_rfl|simp),(by simp)⟩;obtain⟨j,hj,e8,aD⟩:=hI;have k0:=bz 0 (by kernel_rfl);conv at k0=>rhs;whnf
 rw[<-aP k0];have k1:=bz 1 (by kernel_rfl);conv at k1=>rhs;whnf
 rw[<-aP k1];have k7:=bz 7 (by kernel_rfl);conv at k7=>rhs;whnf
 rw[<-aP k7];rw[<-aP e8];clear bz k0 k1 k7 e8;have S:ah hq []:=ah.nil hq;conv=>whnf
 refine ae (fun h1=>?_) (fun h1=>?_)
 ·have bq:j<xs.length:=by simpa using h1
  rw[ar bq]at aD;simp only[na]at aD;conv=>whnf
  refine⟨i64 xs[j],by simp[bq],by omega,rfl,?_⟩;conv=>whnf
  refine⟨_,Ud hp xs[j] _,?_⟩;conv=>whnf
  refine ae (fun h2=>?_) (fun h2=>?_)
  ·conv=>whnf
   exact dO (by rw[aD,h2];rfl)
  ·conv=>whnf
   exact⟨m-1,by omega,j+1,by omega,aQ j (by simp[cM]at hl;omega),by rw[aD,h2];rfl⟩
 ·have bq:j=xs.length:=by have: ¬j<xs.length:=by simpa using h1
                          omega
  subst bq;rw[aL]at aD;conv=>whnf
  exact dO (by rw[aD];rfl)
theorem Bh(hp:bV pr)(xs:List Int)(hl:xs.length<=cM):dm pr 66 [.sl (xs.map i64),WG] (.bool (xs.any fun n=>!bE n)):=by
 have h:=IS hp xs hl;rw[<-yw (fun n=>!bE n) xs 0 (Int.le_refl 0)];refine ea hp rfl rfl ?_;have S:ah [] []:=ah.nil []
 iterate 3
  all_goals(try(conv=>whnf))
  all_goals(first|(intro ke cg er bn;replace S:=S.alloc er bn)|(refine .inl ⟨_,S.row 0 rfl,rfl,?_⟩)|(refine .inl ⟨_,S.row 1 rfl,rfl,?_⟩)|(refine .inl ⟨_,S.row 2 rfl,rfl,?_⟩)|(refine .inl ⟨_,S.row 3 rfl,rfl,?_⟩)|(refine .inl ⟨_,S.row 4 rfl,rfl,?_⟩)|(refine⟨_,rfl,rfl,rfl,.inl ⟨_,S.row 0 rfl,rfl,?_⟩⟩;(conv=>whnf);intro cg bn;replace S:=S.w0 bn)|(refine⟨_,rfl,rfl,rfl,.inl ⟨_,S.row 1 rfl,rfl,?_⟩⟩;(conv=>whnf);intro cg bn;replace S:=S.w1 bn)|(refine⟨_,rfl,rfl,rfl,.inl ⟨_,S.row 2 rfl,rfl,?_⟩⟩;(conv=>whnf);intro cg bn;replace S:=S.w2 bn)|(refine⟨_,rfl,rfl,rfl,.inl ⟨_,S.row 3 rfl,rfl,?_⟩⟩;(conv=>whnf);intro cg bn;replace S:=S.w3 bn)|(refine⟨_,rfl,rfl,rfl,.inl ⟨_,S.row 4 rfl,rfl,?_⟩⟩;(conv=>whnf);intro cg bn;replace S:=S.w4 bn)|(refine ae (fun hb=>?_) (fun hb=>?_))|(refine⟨_,h _,?_⟩)|skip)
 all_goals exact bH hb.symm
theorem FH(hp:bV pr)(xs:List Int)(hl:xs.length<=cM):dm pr 33 [.sl (xs.map i64)] (.bool (nh xs)):=by
 have h:=Bh hp xs hl;refine ea hp rfl rfl ?_;have S:ah [] []:=ah.nil []
 iterate 5
  all_goals(try(conv=>whnf))
  all_goals(first|(intro ke cg er bn;replace S:=S.alloc er bn)|(refine .inl ⟨_,S.row 0 rfl,rfl,?_⟩)|(refine .inl ⟨_,S.row 1 rfl,rfl,?_⟩)|(refine .inl ⟨_,S.row 2 rfl,rfl,?_⟩)|(refine .inl ⟨_,S.row 3 rfl,rfl,?_⟩)|(refine .inl ⟨_,S.row 4 rfl,rfl,?_⟩)|(refine⟨_,rfl,rfl,rfl,.inl ⟨_,S.row 0 rfl,rfl,?_⟩⟩;(conv=>whnf);intro cg bn;replace S:=S.w0 bn)|(refine⟨_,rfl,rfl,rfl,.inl ⟨_,S.row 1 rfl,rfl,?_⟩⟩;(conv=>whnf);intro cg bn;replace S:=S.w1 bn)|(refine⟨_,rfl,rfl,rfl,.inl ⟨_,S.row 2 rfl,rfl,?_⟩⟩;(conv=>whnf);intro cg bn;replace S:=S.w2 bn)|(refine⟨_,rfl,rfl,rfl,.inl ⟨_,S.row 3 rfl,rfl,?_⟩⟩;(conv=>whnf);intro cg bn;replace S:=S.w3 bn)|(refine⟨_,rfl,rfl,rfl,.inl ⟨_,S.row 4 rfl,rfl,?_⟩⟩;(conv=>whnf);intro cg bn;replace S:=S.w4 bn)|(refine ae (fun hb=>?_) (fun hb=>?_))|(refine⟨_,h _,?_⟩)|skip)
 all_goals exact bH (by clear h hl hp;first|(simp_all[nh];done)|(simp_all[nh];omega))
def gW:List Int->List Int->Int
 | [],[]=>0
 | [],_::_=>-1
 |_::_,[]=>1
 |x::xs,y::ys=>if x<y then-1 else if x>y then 1 else gW xs ys
theorem FI: ∀(a b:List Int),gW a b<0↔ng a b<0
 | [],[]=>Iff.rfl
 | [],y::ys=>by
  have:ng [] (y::ys)<0:=by simp only[ng,List.length_nil,aJ];omega
  exact⟨fun _=>this,fun _=>by show(-1:Int)<0;omega⟩
 |x::xs,[]=>by
  have: ¬ng (x::xs) []<0:=by simp only[ng,List.length_nil,aJ];omega
  exact⟨fun h=>by have h':(1:Int)<0:=h;omega,fun h=>absurd h this⟩
 |x::xs,y::ys=>by
  have ih:=FI xs ys;have e1:gW (x::xs) (y::ys)=if x<y then-1 else if x>y then 1 else gW xs ys:=rfl
  have e2:ng (x::xs) (y::ys)=if x<y then-1 else if y<x then 1 else ng xs ys:=rfl
  rw[e1,e2];rcases Int.lt_trichotomy x y with h|h|h
  ·rw[if_pos h,if_pos h]
  ·subst h;rw[if_neg (by omega),if_neg (by omega),if_neg (by omega),if_neg (by omega)];exact ih
  ·rw[if_neg (by omega),if_pos h,if_neg (by omega),if_pos (by omega)]
theorem Df(a b:List Int):decide (gW a b<0)=eg a b:=by
 simp only[eg,FI]
theorem KE(hp:bV pr)(n:Int):dm pr 128 [i64 n] (.bool false):=by
 refine ea hp rfl rfl ?_;have S:ah [] []:=ah.nil []
 iterate 3
  all_goals(try(conv=>whnf))
  all_goals(first|(intro ke cg er bn;replace S:=S.alloc er bn)|(refine .inl ⟨_,S.row 0 rfl,rfl,?_⟩)|(refine .inl ⟨_,S.row 1 rfl,rfl,?_⟩)|(refine .inl ⟨_,S.row 2 rfl,rfl,?_⟩)|(refine .inl ⟨_,S.row 3 rfl,rfl,?_⟩)|(refine .inl ⟨_,S.row 4 rfl,rfl,?_⟩)|(refine⟨_,rfl,rfl,rfl,.inl ⟨_,S.row 0 rfl,rfl,?_⟩⟩;(conv=>whnf);intro cg bn;replace S:=S.w0 bn)|(refine⟨_,rfl,rfl,rfl,.inl ⟨_,S.row 1 rfl,rfl,?_⟩⟩;(conv=>whnf);intro cg bn;replace S:=S.w1 bn)|(refine⟨_,rfl,rfl,rfl,.inl ⟨_,S.row 2 rfl,rfl,?_⟩⟩;(conv=>whnf);intro cg bn;replace S:=S.w2 bn)|(refine⟨_,rfl,rfl,rfl,.inl ⟨_,S.row 3 rfl,rfl,?_⟩⟩;(conv=>whnf);intro cg bn;replace S:=S.w3 bn)|(refine⟨_,rfl,rfl,rfl,.inl ⟨_,S.row 4 rfl,rfl,?_⟩⟩;(conv=>whnf);intro cg bn;replace S:=S.w4 bn)|(refine ae (fun hb=>?_) (fun hb=>?_))|skip)
 all_goals exact bH (by simp_all)
def IT(x y:Int):Int:=if x<y then-1 else if x>y then 1 else 0
theorem OV(hp:bV pr)(x y:Int):dm pr 102 [i64 x,i64 y] (i64 (IT x y)):=by
 have h1:=KE hp x;have h2:=KE hp y;refine ea hp rfl rfl ?_;have S:ah [] []:=ah.nil []
 iterate 5
  all_goals(try(conv=>whnf))
  all_goals(first|(intro ke cg er bn;replace S:=S.alloc er bn)|(refine .inl ⟨_,S.row 0 rfl,rfl,?_⟩)|(refine .inl ⟨_,S.row 1 rfl,rfl,?_⟩)|(refine .inl ⟨_,S.row 2 rfl,rfl,?_⟩)|(refine .inl ⟨_,S.row 3 rfl,rfl,?_⟩)|(refine .inl ⟨_,S.row 4 rfl,rfl,?_⟩)|(refine⟨_,rfl,rfl,rfl,.inl ⟨_,S.row 0 rfl,rfl,?_⟩⟩;(conv=>whnf);intro cg bn;replace S:=S.w0 bn)|(refine⟨_,rfl,rfl,rfl,.inl ⟨_,S.row 1 rfl,rfl,?_⟩⟩;(conv=>whnf);intro cg bn;replace S:=S.w1 bn)|(refine⟨_,rfl,rfl,rfl,.inl ⟨_,S.row 2 rfl,rfl,?_⟩⟩;(conv=>whnf);intro cg bn;replace S:=S.w2 bn)|(refine⟨_,rfl,rfl,rfl,.inl ⟨_,S.row 3 rfl,rfl,?_⟩⟩;(conv=>whnf);intro cg bn;replace S:=S.w3 bn)|(refine⟨_,rfl,rfl,rfl,.inl ⟨_,S.row 4 rfl,rfl,?_⟩⟩;(conv=>whnf);intro cg bn;replace S:=S.w4 bn)|(refine ae (fun hb=>?_) (fun hb=>?_))|(refine⟨_,h1 _,?_⟩)|(refine⟨_,h2 _,?_⟩)|skip)
 all_goals exact dO (by clear h1 h2;first|(simp_all[IT];done)|(simp_all[IT];omega))
theorem OW{xs:List Int}(ys:List Int)(h:xs=[]):gW xs ys=if ys=[]then 0 else-1:=by
 subst h;cases ys<;>rfl
theorem B4(hp:bV pr)(xs ys:List Int)(hl:xs.length<=cM)(CI:ys.length<=cM):dm pr 69 [.sl (xs.map i64),.sl (ys.map i64)] (i64 (gW xs ys)):=by
 refine ea hp rfl rfl ?_;have S:ah [] []:=ah.nil [];conv=>whnf
 refine ga (fun m tm hp=>∃(j:Nat),j+m=xs.length/\tm 11=i64 (j:Nat)/\(j<=ys.length/\gW xs ys=gW (xs.drop j) (ys.drop j))) (fun m tm hq bz hI=>?_) (xs.length) ⟨0,by simp,(by first|rfl|kernel_rfl|simp),(by simp)⟩;obtain⟨j,hj,IQ,aD⟩:=hI;have k0:=bz 0 (by kernel_rfl);conv at k0=>rhs;whnf
 rw[<-aP k0];have k1:=bz 1 (by kernel_rfl);conv at k1=>rhs;whnf
 rw[<-aP k1];have k9:=bz 9 (by kernel_rfl);conv at k9=>rhs;whnf
 rw[<-aP k9];have Ue:=bz 10 (by kernel_rfl);conv at Ue=>rhs;whnf
 rw[<-aP Ue];rw[<-aP IQ];clear bz k0 k1 k9 Ue IQ;have S:ah hq []:=ah.nil hq;conv=>whnf
 obtain⟨hjy,aD⟩:=aD;refine ae (fun h1=>?_) (fun h1=>?_)
 ·have bq:j<xs.length:=by simpa using h1
  have g1:(xs.map i64)[((j:Nat):Int).toNat]?=some (i64 xs[j]):=by rw[aq];simp[bq]
  rw[ar bq]at aD;conv=>whnf
  refine⟨_,g1,by omega,rfl,?_⟩;conv=>whnf
  refine ae (fun h2=>?_) (fun h2=>?_)
  ·have Nt:ys.length<=j:=by simpa using h2
   rw[List.drop_eq_nil_of_le Nt]at aD;conv=>whnf
   exact dO (by rw[aD];rfl)
  ·have Nt:j<ys.length:=by simpa using h2
   have g2:(ys.map i64)[((j:Nat):Int).toNat]?=some (i64 ys[j]):=by rw[aq];simp[Nt]
   rw[ar Nt]at aD;have h3:=OV hp xs[j] ys[j]
   have c8:gW xs ys=if IT xs[j] ys[j]=0 then gW (xs.drop (j+1)) (ys.drop (j+1))else IT xs[j] ys[j]:=by
    rw[aD];simp only[gW,IT];split
    ·simp
    ·split<;>simp
   generalize xs[j]=x at g1 h3 c8;generalize ys[j]=y at g2 h3 c8;generalize IT x y=c at h3 c8;conv=>whnf
   refine⟨_,g2,by omega,rfl,?_⟩;conv=>whnf
   refine⟨_,h3 _,?_⟩;conv=>whnf
   refine ae (fun h4=>?_) (fun h4=>?_)
   ·conv=>whnf
    exact dO (by rw[c8,if_neg (by simpa using h4)])
   ·conv=>whnf
    exact⟨m-1,by omega,j+1,by omega,aQ j (by simp[cM]at hl;omega),by omega,by rw[c8,if_pos (by simpa using h4)]⟩
 ·have bq:j=xs.length:=by have: ¬j<xs.length:=by simpa using h1
                          omega
  subst bq;rw[OW _ (aL)]at aD;conv=>whnf
  refine ae (fun h2=>?_) (fun h2=>?_)
  ·conv=>whnf
   exact dO (by rw[aD,if_neg (by simp at h2⊢;omega)])
  ·conv=>whnf
   exact dO (by rw[aD,if_pos (by simp at h2⊢;omega)])
theorem IU(hp:bV pr)(a b:List Int)(h1:a.length<=cM)(h2:b.length<=cM):dm pr 34 [.sl (a.map i64),.sl (b.map i64)] (.bool (eg a b)):=by
 have h:=B4 hp a b h1 h2;rw[<-Df];refine ea hp rfl rfl ?_;have S:ah [] []:=ah.nil []
 iterate 3
  all_goals(try(conv=>whnf))
  all_goals(first|(intro ke cg er bn;replace S:=S.alloc er bn)|(refine .inl ⟨_,S.row 0 rfl,rfl,?_⟩)|(refine .inl ⟨_,S.row 1 rfl,rfl,?_⟩)|(refine .inl ⟨_,S.row 2 rfl,rfl,?_⟩)|(refine .inl ⟨_,S.row 3 rfl,rfl,?_⟩)|(refine .inl ⟨_,S.row 4 rfl,rfl,?_⟩)|(refine⟨_,rfl,rfl,rfl,.inl ⟨_,S.row 0 rfl,rfl,?_⟩⟩;(conv=>whnf);intro cg bn;replace S:=S.w0 bn)|(refine⟨_,rfl,rfl,rfl,.inl ⟨_,S.row 1 rfl,rfl,?_⟩⟩;(conv=>whnf);intro cg bn;replace S:=S.w1 bn)|(refine⟨_,rfl,rfl,rfl,.inl ⟨_,S.row 2 rfl,rfl,?_⟩⟩;(conv=>whnf);intro cg bn;replace S:=S.w2 bn)|(refine⟨_,rfl,rfl,rfl,.inl ⟨_,S.row 3 rfl,rfl,?_⟩⟩;(conv=>whnf);intro cg bn;replace S:=S.w3 bn)|(refine⟨_,rfl,rfl,rfl,.inl ⟨_,S.row 4 rfl,rfl,?_⟩⟩;(conv=>whnf);intro cg bn;replace S:=S.w4 bn)|(refine ae (fun hb=>?_) (fun hb=>?_))|(refine⟨_,h _,?_⟩)|skip)
 all_goals exact bH (by rw[hb])
theorem OX(hp:bV pr)(xs ys:List Int)(hl:xs.length<=cM):dm pr 39 [.sl (xs.map i64),.sl (ys.map i64)] (.bool (eS xs ys)):=by
 refine ea hp rfl rfl ?_;have S:ah [] []:=ah.nil [];conv=>whnf
 refine ae (fun h0=>?_) (fun h0=>?_)
 ·conv=>whnf
  exact bH (lx (by simp at h0;omega)).symm
 have hlen:xs.length=ys.length:=by simp at h0;omega
 conv=>whnf
 refine ga (fun m tm hp=>∃(j:Nat),j+m=xs.length/\tm 13=i64 (j:Nat)/\(eS xs ys=cG (· == ·) (xs.drop j) (ys.drop j))) (fun m tm hq bz hI=>?_) (xs.length) ⟨0,by simp,(by first|rfl|kernel_rfl|simp),(rfl)⟩;obtain⟨j,hj,L8,aD⟩:=hI;have k0:=bz 0 (by kernel_rfl);conv at k0=>rhs;whnf
 rw[<-aP k0];have k1:=bz 1 (by kernel_rfl);conv at k1=>rhs;whnf
 rw[<-aP k1];have Uf:=bz 12 (by kernel_rfl);conv at Uf=>rhs;whnf
 rw[<-aP Uf];rw[<-aP L8];clear bz k0 k1 Uf L8;have S:ah hq []:=ah.nil hq;conv=>whnf
 refine ae (fun h1=>?_) (fun h1=>?_)
 ·have bq:j<xs.length:=by simpa using h1
  rw[iU bq (by omega)]at aD;conv=>whnf
  refine⟨i64 xs[j],by simp[bq],by omega,rfl,?_⟩;conv=>whnf
  refine⟨i64 ys[j],by simp[show j<ys.length by omega],by omega,rfl,?_⟩;conv=>whnf
  refine ae (fun h2=>?_) (fun h2=>?_)
  ·have h3:(xs[j]==ys[j])=false:=by simpa using h2
   conv=>whnf
   exact bH (by rw[aD,h3];rfl)
  ·have h3:(xs[j]==ys[j])=true:=by simpa using h2
   conv=>whnf
   exact⟨m-1,by omega,j+1,by omega,aQ j (by simp[cM]at hl;omega),by rw[aD,h3];rfl⟩
 ·have bq:j=xs.length:=by have: ¬j<xs.length:=by simpa using h1
                          omega
  subst bq;rw[jL hlen]at aD;conv=>whnf
  exact bH aD.symm
theorem IV(hp:bV pr)(a b:List Int)(h1:a.length<=cM):dm pr 26 [.sl (a.map i64),.sl (b.map i64)] (.bool (eS a b)):=by
 have h:=OX hp a b h1;refine ea hp rfl rfl ?_;have S:ah [] []:=ah.nil []
 iterate 3
  all_goals(try(conv=>whnf))
  all_goals(first|(intro ke cg er bn;replace S:=S.alloc er bn)|(refine .inl ⟨_,S.row 0 rfl,rfl,?_⟩)|(refine .inl ⟨_,S.row 1 rfl,rfl,?_⟩)|(refine .inl ⟨_,S.row 2 rfl,rfl,?_⟩)|(refine .inl ⟨_,S.row 3 rfl,rfl,?_⟩)|(refine .inl ⟨_,S.row 4 rfl,rfl,?_⟩)|(refine⟨_,rfl,rfl,rfl,.inl ⟨_,S.row 0 rfl,rfl,?_⟩⟩;(conv=>whnf);intro cg bn;replace S:=S.w0 bn)|(refine⟨_,rfl,rfl,rfl,.inl ⟨_,S.row 1 rfl,rfl,?_⟩⟩;(conv=>whnf);intro cg bn;replace S:=S.w1 bn)|(refine⟨_,rfl,rfl,rfl,.inl ⟨_,S.row 2 rfl,rfl,?_⟩⟩;(conv=>whnf);intro cg bn;replace S:=S.w2 bn)|(refine⟨_,rfl,rfl,rfl,.inl ⟨_,S.row 3 rfl,rfl,?_⟩⟩;(conv=>whnf);intro cg bn;replace S:=S.w3 bn)|(refine⟨_,rfl,rfl,rfl,.inl ⟨_,S.row 4 rfl,rfl,?_⟩⟩;(conv=>whnf);intro cg bn;replace S:=S.w4 bn)|(refine ae (fun hb=>?_) (fun hb=>?_))|(refine⟨_,h _,?_⟩)|skip)
 all_goals exact bH hb.symm
end Go.Proofs.YtfepbikckfehlaaGreat

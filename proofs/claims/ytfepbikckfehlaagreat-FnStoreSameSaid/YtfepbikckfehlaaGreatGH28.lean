/- The plain law: the order of rows; sorted lists put together. -/
import Derived.Test.YtfepbikckfehlaaGreatGH26
import Derived.Test.YtfepbikckfehlaaGreatGH27
import Derived.Test.YtfepbikckfehlaaGreatGH12
import Derived.Test.YtfepbikckfehlaaGreatGH25
import Derived.Test.YtfepbikckfehlaaGreatGH24
set_option linter.unusedVariables false
set_option linter.unusedSimpArgs false
set_option maxHeartbeats 4000000
namespace Go.Proofs.YtfepbikckfehlaaGreat
open Go Go.Am
variable{pr:bW}(hp:cF pr)(hs:DE pr)
set_option maxRecDepth 100000
def js(au:Int):Int:=if au=4 then 2 else if au=6∨au=7 then 1 else 0
def kO(ro:List (List Item)->Bool)(au:Int)(l r:List (List Item)):Bool:=(ro l&&(!decide (js au<=0)||l.isEmpty))&&(ro r&&(!decide (js au<=1)||r.isEmpty))
def Iw(ro:List (List Item)->Bool)(au:Int)(l r:List (List Item))(rest:Bool):Nat->Bool
 |0=>kO ro au l r&&rest
 |1=>(ro r&&(!decide (js au<=1)||r.isEmpty))&&rest
 |_=>rest
def bz.ez:bz->aA| .mk p ..=>p
mutual
def kU(ro:List (List Item)->Bool):bz->Bool
 | .mk p l r ks=>(ks.length==p.ao.length)&&(kO ro p.au l r&&ma ro ks p.ao)
def ma(ro:List (List Item)->Bool):List bz->List aA->Bool
 |f::fs,q::qs=>(eY f.ez q&&kU ro f)&&ma ro fs qs
 |_,_=>true
end
theorem TT(hp:cF pr)(p:aA):dK pr 132 [p.enc] (i64 (js p.au)):=by
 obtain⟨au,n,aD,cells,a,b,aq,agg,c,ao⟩:=p;refine ff hp rfl rfl ?_;have S:=aj.nil []
 iterate 8
  all_goals(try(conv=>whnf))
  all_goals(first|(intro iK cp ee bf;replace S:=S.alloc ee bf)|(refine aC (S.row 0 rfl) ?_)|(refine aC (S.row 1 rfl) ?_)|(refine⟨_,rfl,rfl,rfl,.inl ⟨_,S.row 0 rfl,rfl,?_⟩⟩;(conv=>whnf);intro cp bf;replace S:=S.w0 bf)|(refine⟨_,rfl,rfl,rfl,.inl ⟨_,S.row 1 rfl,rfl,?_⟩⟩;(conv=>whnf);intro cp bf;replace S:=S.w1 bf)|(refine ae (fun hb=>?_) (fun hb=>?_))|skip)
 all_goals(try(conv=>whnf))
 all_goals exact eJ (by simp_all[js,aA.au])
theorem jY{p:aA}{l r:List (List Item)}{ks:List bz}:(bz.mk p l r ks).d.fA=p.sz+(bX.d l).fA+(bX.d r).fA+(ks.length+bg.fV (ks.map bz.d)):=by
 simp only[bz.d,bg.fA,bg.fV,bz.E7,aat];omega
theorem eV{l:List (List Item)}(h:(bX.d l).fA<=1048576):s7 l:=by
 simp only[bX.d,bg.fA,aat]at h;refine⟨by simp[dB];omega,fun z hz=>?_⟩;have h1:=eA (f:=aI.d) hz;simp only[aI.d,bg.fA,aat]at h1;refine⟨by simp[dB];omega,fun x hx=>?_⟩;have h2:=eA (f:=Item.d) hx;rw[Item.fA]at h2;simp[dB];omega
theorem rJ(ks:List bz)(j:Nat):(bz.dv ks)[j]?=(ks[j]?).map bz.enc:=by
 have:bz.dv ks=ks.map bz.enc:=by induction ks with|nil=>rfl|cons f fs ih=>simp[bz.dv,ih]
 rw[this,aba]
theorem mc(ks:List bz):(bz.dv ks).length=ks.length:=by
 induction ks with|nil=>rfl|cons f fs ih=>simp[bz.dv,ih]
theorem KY{ro:List (List Item)->Bool}{ks:List bz}{qs:List aA}{j:Nat}(h1:j<ks.length)(h2:j<qs.length):ma ro (ks.drop j) (qs.drop j)=((eY ks[j].ez qs[j]&&kU ro ks[j])&&ma ro (ks.drop (j+1)) (qs.drop (j+1))):=by
 rw[aaf h1,aaf h2,ma]
theorem Rh(hs:DE pr): ∀(N:Nat)(f:bz),SizeOf.sizeOf f<=N->f.d.fA<=1048576->dK pr 111 [f.enc] (.bool (kU iV f)):=by
 have hp:=hs.tocF;intro N
 induction N with
 |zero=>intro f h;cases f;simp at h
 |succ N ih=>
  intro f jP ht;obtain⟨⟨au,n,aD,cells,a,b,aq,agg,c,ao⟩,l,r,ks⟩:=f;rw[jY]at ht;have hl:=Iv hp l (eV (by omega));have hr:=Iv hp r (eV (by omega));have hk:=TT hp (.mk au n aD cells a b aq agg c ao);have kD:=eH ao;have GL:=mc ks;have gu:(aA.mk au n aD cells a b aq agg c ao).small:=by unfold aA.small;omega
  obtain⟨sc,lf,gS,gE⟩:=eE gu;have eZ: ∀k∈ks,dK pr 111 [k.enc] (.bool (kU iV k)):=fun k hk=>ih k (by have:=abo hk;simp at jP;omega) (by have:=eA (f:=bz.d) hk;omega)
  have Dd: ∀k∈ks,∀q,dK pr 71 [k.ez.enc,q.enc] (.bool (eY k.ez q)):=fun k hk q=>uS hp _ q (by
   have:=eA (f:=bz.d) hk;obtain⟨p',l',r',kC⟩:=k;rw[jY]at this;simp only[bz.ez,aA.small];omega)
  have abG:ks.length<=1048576:=by omega
  clear ih jP ht;generalize hR:kU iV (.mk (.mk au n aD cells a b aq agg c ao) l r ks)=R;rw[kU]at hR;simp only[aA.au,aA.ao]at hR hk;refine ff hp rfl rfl ?_;have S:=aj.nil [];conv=>whnf
  intro k1 a1 eg er;replace S:=S.alloc eg er;clear eg er;refine aC (S.row 0 rfl) ?_;refine aC (S.row 0 rfl) ?_;conv=>whnf
  refine ae (fun g0=>?_) (fun g0=>?_)
  ·conv=>whnf
   exact br (by rw[<-hR];rw[kD,GL]at g0;have:(ks.length==ao.length)=false:=by simp at g0⊢;omega
                rw[this];rfl)
  ·have hlen:ks.length=ao.length:=by rw[kD,GL]at g0;simp at g0;omega
   rw[show(ks.length==ao.length)=true by simp[hlen],aay]at hR;clear g0;refine aC (S.row 0 rfl) ?_;refine aC (S.row 0 rfl) ?_;conv=>whnf
   intro k2 a2 jS jb;replace S:=S.alloc jS jb;clear jS jb;conv=>whnf
   have S2:aj a2 [.row k2 (.arr 1 [.agg [bX.enc l],.agg [bX.enc r]]),.row k1 (.box (bz.mk (.mk au n aD cells a b aq agg c ao) l r ks).enc)]:=S;clear S;have S:=S2;clear S2;refine iv (fun m tm hp=>∃(j:Nat),j+m=2/\tm 21=i64 (j:Nat)/\aj hp [.row k2 (.arr 1 [.agg [bX.enc l],.agg [bX.enc r]]),.row k1 (.box (bz.mk (.mk au n aD cells a b aq agg c ao) l r ks).enc)]/\(Iw iV au l r (ma iV ks ao) j=R)) (fun m tm hq bG hI=>?_) (2) ⟨0,by simp,(by first|rfl|kernel_rfl|simp),S,(hR)⟩;obtain⟨j,hj,e21,S2,aF⟩:=hI;have k1:=bG 1 (by kernel_rfl);conv at k1=>rhs;whnf
   rw[<-aR k1];have k19:=bG 19 (by kernel_rfl);conv at k19=>rhs;whnf
   rw[<-aR k19];have k20:=bG 20 (by kernel_rfl);conv at k20=>rhs;whnf
   rw[<-aR k20];rw[<-aR e21];clear bG k1 k19 k20 e21;clear S;have S:=S2;clear S2;conv=>whnf
   clear hR;have Pl:j=0∨j=1∨j=2:=by omega
   rcases Pl with rfl|rfl|rfl
   ·simp only[Iw,kO]at aF;conv=>whnf
    refine⟨_,S.row 0 rfl,⟨by decide,by simp⟩,?_⟩;conv=>whnf
    refine .inr ⟨_,_,_,S.row 0 rfl,rfl,?_⟩
    iterate 3
     all_goals(try(conv=>whnf))
     all_goals(first|(intro iK cp ee bf;replace S:=S.alloc ee bf)|(refine aC (S.row 0 rfl) ?_)|(refine⟨_,rfl,rfl,rfl,.inl ⟨_,S.row 0 rfl,rfl,?_⟩⟩;(conv=>whnf);intro cp bf;replace S:=S.w0 bf)|(refine ae (fun hb=>?_) (fun hb=>?_))|skip)
    refine⟨_,hl _,?_⟩;conv=>whnf
    refine ae (fun g1=>?_) (fun g1=>?_)
    ·rw[g1,aay]at aF;refine aC (S.row 2 rfl) ?_;conv=>whnf
     refine⟨_,hk _,?_⟩;conv=>whnf
     refine ae (fun g2=>?_) (fun g2=>?_)
     ·have wM:decide (js au<=0)=true:=by simpa using g2
      rw[wM]at aF;refine aC (S.row 0 rfl) ?_;conv=>whnf
      refine ae (fun g3=>?_) (fun g3=>?_)
      ·conv=>whnf
       exact br (by rw[<-aF];cases l with|nil=>simp at g3|cons x xs=>rfl)
      ·conv=>whnf
       have:l.isEmpty=true:=by cases l with|nil=>rfl|cons x xs=>simp at g3
       rw[this]at aF;exact⟨m-1,by omega,0+1,by omega,aP 0 (by omega),S.drop 0,by rw[<-aF];simp[Iw]⟩
     ·have wM:decide (js au<=0)=false:=by simpa using g2
      rw[wM]at aF;conv=>whnf
      exact⟨m-1,by omega,0+1,by omega,aP 0 (by omega),S.drop 0,by rw[<-aF];simp[Iw]⟩
    ·conv=>whnf
     exact br (by rw[<-aF,g1];rfl)
   ·simp only[Iw,kO]at aF;conv=>whnf
    refine⟨_,S.row 0 rfl,⟨by decide,by simp⟩,?_⟩;conv=>whnf
    refine .inr ⟨_,_,_,S.row 0 rfl,rfl,?_⟩
    iterate 3
     all_goals(try(conv=>whnf))
     all_goals(first|(intro iK cp ee bf;replace S:=S.alloc ee bf)|(refine aC (S.row 0 rfl) ?_)|(refine⟨_,rfl,rfl,rfl,.inl ⟨_,S.row 0 rfl,rfl,?_⟩⟩;(conv=>whnf);intro cp bf;replace S:=S.w0 bf)|(refine ae (fun hb=>?_) (fun hb=>?_))|skip)
    refine⟨_,hr _,?_⟩;conv=>whnf
    refine ae (fun g1=>?_) (fun g1=>?_)
    ·rw[g1,aay]at aF;refine aC (S.row 2 rfl) ?_;conv=>whnf
     refine⟨_,hk _,?_⟩;conv=>whnf
     refine ae (fun g2=>?_) (fun g2=>?_)
     ·have wM:decide (js au<=1)=true:=by simpa using g2
      rw[wM]at aF;refine aC (S.row 0 rfl) ?_;conv=>whnf
      refine ae (fun g3=>?_) (fun g3=>?_)
      ·conv=>whnf
       exact br (by rw[<-aF];cases r with|nil=>simp at g3|cons x xs=>rfl)
      ·conv=>whnf
       have:r.isEmpty=true:=by cases r with|nil=>rfl|cons x xs=>simp at g3
       rw[this]at aF;exact⟨m-1,by omega,1+1,by omega,aP 1 (by omega),S.drop 0,by rw[<-aF];simp[Iw]⟩
     ·have wM:decide (js au<=1)=false:=by simpa using g2
      rw[wM]at aF;conv=>whnf
      exact⟨m-1,by omega,1+1,by omega,aP 1 (by omega),S.drop 0,by rw[<-aF];simp[Iw]⟩
    ·conv=>whnf
     exact br (by rw[<-aF,g1];rfl)
   ·simp only[Iw]at aF;refine aC (S.row 1 rfl) ?_;conv=>whnf
    have S0:aj hq [.row k1 (.box (bz.mk (.mk au n aD cells a b aq agg c ao) l r ks).enc)]:=S.drop 0;clear S;have S:=S0;clear S0;conv=>whnf
    refine iv (fun m tm hp=>∃(j:Nat),j+m=ks.length/\tm 46=i64 (j:Nat)/\aj hp [.row k1 (.box (bz.mk (.mk au n aD cells a b aq agg c ao) l r ks).enc)]/\(ma iV (ks.drop j) (ao.drop j)=R)) (fun m tm hq bG hI=>?_) (ks.length) ⟨0,by simp,(by first|rfl|kernel_rfl|simp),S,(aF)⟩;obtain⟨j,hj,e46,S2,aF⟩:=hI;have k1:=bG 1 (by kernel_rfl);conv at k1=>rhs;whnf
    rw[<-aR k1];have k44:=bG 44 (by kernel_rfl);conv at k44=>rhs;whnf
    rw[<-aR k44];have k45:=bG 45 (by kernel_rfl);conv at k45=>rhs;whnf
    rw[<-aR k45];rw[<-aR e46];clear bG k1 k44 k45 e46;clear S;have S:=S2;clear S2;conv=>whnf
    refine ae (fun h1=>?_) (fun h1=>?_)
    ·have bp:j<ks.length:=by rw[GL]at h1;simpa using h1
     have Pj:j<ao.length:=by omega
     have dw:(bz.dv ks)[((j:Nat):Int).toNat]?=some (bz.enc ks[j]):=by rw[aaa,rJ,aab bp];rfl
     have V6:(aA.dv ao)[((j:Nat):Int).toNat]?=some (aA.enc ao[j]):=by rw[aaa,fN,aab Pj];rfl
     rw[KY bp Pj]at aF;have h2:=Dd _ (aac bp) ao[j];have h3:=eZ _ (aac bp);generalize ks[j]=x at dw aF h2 h3;generalize ao[j]=q at V6 aF h2;obtain⟨⟨cG,n',dq,bR,a',b',cH,dE,c',cE⟩,l',r',kC⟩:=x;obtain⟨oJ,n2,oL,lg,NX,b2,oM,uT,c2,oN⟩:=q;simp only[bz.ez]at h2 aF;conv=>whnf
     refine⟨_,dw,by omega,rfl,?_⟩
     iterate 3
      all_goals(try(conv=>whnf))
      all_goals(first|(intro iK cp ee bf;replace S:=S.alloc ee bf)|(refine aC (S.row 0 rfl) ?_)|(refine aC (S.row 1 rfl) ?_)|(refine⟨_,rfl,rfl,rfl,.inl ⟨_,S.row 0 rfl,rfl,?_⟩⟩;(conv=>whnf);intro cp bf;replace S:=S.w0 bf)|(refine⟨_,rfl,rfl,rfl,.inl ⟨_,S.row 1 rfl,rfl,?_⟩⟩;(conv=>whnf);intro cp bf;replace S:=S.w1 bf)|(refine ae (fun hb=>?_) (fun hb=>?_))|skip)
     refine aC (S.row 1 rfl) ?_;conv=>whnf
     refine⟨_,V6,by omega,rfl,?_⟩;conv=>whnf
     refine⟨_,h2 _,?_⟩;conv=>whnf
     refine ae (fun g4=>?_) (fun g4=>?_)
     ·rw[g4,aay]at aF;refine aC (S.row 0 rfl) ?_;conv=>whnf
      refine⟨_,h3 _,?_⟩;conv=>whnf
      refine ae (fun g5=>?_) (fun g5=>?_)
      ·rw[g5,aay]at aF;conv=>whnf
       exact⟨m-1,by omega,j+1,by omega,aP j (by omega),S.drop 0,aF⟩
      ·conv=>whnf
       exact br (by rw[<-aF,g5];rfl)
     ·conv=>whnf
      exact br (by rw[<-aF,g4];rfl)
    ·have bp:j=ks.length:=by have: ¬j<ks.length:=by rw[GL]at h1;simpa using h1
                             omega
     conv=>whnf
     exact br (by rw[<-aF,bp,aal];rfl)
theorem Oj(hs:DE pr)(f:bz)(ht:f.d.fA<=1048576):dK pr 79 [f.enc] (.bool (fit f.ez&&kU iV f)):=by
 have h2:=Rh hs _ f (aah _) ht;obtain⟨⟨au,n,aD,cells,a,b,aq,agg,c,ao⟩,l,r,ks⟩:=f;have h1:=KF hs (.mk au n aD cells a b aq agg c ao) (by rw[jY]at ht;unfold aA.small;omega);refine ff hs.tocF rfl rfl ?_;have S:=aj.nil [];conv=>whnf
 intro k1 a1 eg er;replace S:=S.alloc eg er;refine aC (S.row 0 rfl) ?_;conv=>whnf
 refine⟨_,h1 _,?_⟩;conv=>whnf
 refine ae (fun g1=>?_) (fun g1=>?_)
 ·refine aC (S.row 0 rfl) ?_;conv=>whnf
  refine⟨_,h2 _,?_⟩;conv=>whnf
  refine ae (fun g2=>?_) (fun g2=>?_)
  ·conv=>whnf
   exact br (by simp only[bz.ez];rw[g1,g2];rfl)
  ·conv=>whnf
   exact br (by simp only[bz.ez];rw[g1,g2];rfl)
 ·conv=>whnf
  exact br (by simp only[bz.ez];rw[g1];rfl)
end Go.Proofs.YtfepbikckfehlaaGreat
set_option maxHeartbeats 4000000
namespace Go.Am
open Go
abbrev iI:=List (Nat×af)
def MK:iI->Nat->Option af
 | [],_=>none
 |(d,v)::l,k=>match Nat.decEq k d with
  |isTrue _=>some v
  |isFalse _=>MK l k
def wP(base:Nat->af)(l:iI):Nat->af:=fun k=>match MK l k with
 |some v=>v
 |none=>base k
theorem Ix(base:Nat->af)(l:iI)(d:Nat)(v:af):wP base ((d,v)::l)=fX (wP base l) d v:=by
 funext k
 unfold wP fX;simp only[MK]
 cases hd:Nat.decEq k d with
 |isTrue e=>simp only[e,if_true]
 |isFalse n=>simp only[if_neg n]
def rK(tm:Nat->af):iI->Prop
 | []=>True
 |p::l=>tm p.1=p.2/\rK tm l
theorem x8{tm:Nat->af}: ∀{l:iI},rK tm l->wP tm l=tm
 | [],_=>rfl
 |p::l,h=>by
  obtain⟨d,v⟩:=p;rw[Ix,x8 h.2]
  funext k
  unfold fX;split
  ·rename_i e;subst e;exact h.1.symm
  ·rfl
theorem rK.cons{tm:Nat->af}{k:Nat}{v:af}{l:iI}(h:tm k=v)(hl:rK tm l):rK tm ((k,v)::l):=⟨h,hl⟩
theorem rK.nil{tm:Nat->af}:rK tm []:=trivial
inductive pf where
 |norm (b:Nat->af) (l:iI) (h:aG)
 |exit (id:Nat) (b:Nat->af) (l:iI) (h:aG)
 |ret (b:Nat->af) (l:iI) (h:aG)
 |jI (v:af) (h:aG)
def pf.out:pf->Out
 | .norm b l h=>.norm ⟨wP b l,h⟩
 | .exit id b l h=>.exit id ⟨wP b l,h⟩
 | .ret b l h=>.ret ⟨wP b l,h⟩
 | .jI v h=>.jI v h
def CJ(l:iI)(d:Option Nat)(v:af)(K:iI->Prop):Prop:=match d with
 |some d=>K ((d,v)::l)
 |none=>K l
theorem DM{base:Nat->af}{l:iI}{d:Option Nat}{v:af}{K:iI->Prop}(h:CJ l d v K): ∃l',wP base l'=jL (wP base l) d v/\K l':=by
 cases d with
 |none=>exact⟨l,rfl,h⟩
 |some d=>exact⟨_,Ix base l d v,h⟩
def Wp:Op->Option Nat
 | .move (.tmp t)=>some t
 | .assign (.tmp t)=>some t
 |_=>none
theorem Ri{cf:eP}{tm:Nat->af}{h:aG}{o:Op}{t:Nat}(hf:Wp o=some t):sQ o=false/\aV cf tm h o=some (.val (tm t) h):=by
 unfold Wp at hf;split at hf
 ·cases hf;exact⟨rfl,rfl⟩
 ·cases hf;exact⟨rfl,rfl⟩
 ·cases hf
def Wq(base:Nat->af)(l:iI)(t:Nat)(K:af->Prop):Prop:=match MK l t with
 |some v=>K v
 |none=>K (base t)
theorem Ok{base:Nat->af}{l:iI}{t:Nat}{K:af->Prop}(h:Wq base l t K):K (wP base l t):=by
 unfold Wq at h;unfold wP;split<;>simp_all
def abL(P:Program)(t:TypeId)(r:ef)(K:af->aG->Prop)(Q:pf->Prop):Prop:=match r with
 | .ret v h=>Hl P t v (K · h)
 | .jI v h=>Q (.jI v h)
def TU(cf:eP)(d:Bool)(o:Oper)(base:Nat->af)(l:iI)(hp:aG)(K:iI->aG->Prop)(Q:pf->Prop):Prop:=
 match sQ o.op with
 |true=>match aV cf (wP base l) hp o.op with
  |some (.call f args)=>match d&&(zC o.op&& !sB (cf.M f))with
   |true=>False
   |false=>∃r,cj cf (call cf) f args hp=some r/\abL cf.P o.type r (fun v h=>CJ l o.dst v fun l=>K l h) Q
  |some (.jI v)=>Q (.jI v hp)
  |_=>False
 |false=>match Wp o.op with
  |some t=>Wq base l t fun v=>Hl cf.P o.type v fun v=>CJ l o.dst v fun l=>K l hp
  |none=>Tm cf (wP base l) hp o.op fun v h=>Hl cf.P o.type v fun v=>CJ l o.dst v fun l=>K l h
def ML(cf:eP)(d:Bool)(ops:Array Oper)(o:Oper)(n:Nat)(base:Nat->af)(K:iI->aG->Prop)(l:iI)(hp:aG):Prop:=match d&&xw cf.M o.op with
 |false=>K l hp
 |true=>match nC (((m6 ops.toList [])[ops.size-n-1]?).getD 0) (ops.toList.take (ops.size-n-1)) 0 with
  |false=>K l hp
  |true=>nH cf ⟨wP base l,hp⟩ (((m6 ops.toList [])[ops.size-n-1]?).getD 0) (ops.toList.take (ops.size-n-1)) 0/\K l hp
def KZ(cf:eP)(d:Bool)(ops:Array Oper)(Q:pf->Prop)(base:Nat->af):List Oper->iI->aG->Prop
 | [],l,hp=>Q (.norm base l hp)
 |o::rest,l,hp=>match eL ops o (wP base l)with
  |none=>TU cf d o base l hp (ML cf d ops o rest.length base (KZ cf d ops Q base rest)) Q
  |some t=>rC t (TU cf d o base l hp (ML cf d ops o rest.length base (KZ cf d ops Q base rest)) Q) (CJ l o.dst (.eT []) fun l=>KZ cf d ops Q base rest l hp)
def Bk(cf:eP):Code->(pf->Prop)->(Nat->af)->iI->aG->Prop
 | .skip,Q,b,l,h=>Q (.norm b l h)
 | .region id ops d,Q,b,l,h=>Qo cf.pm id ops d fun ops=>KZ cf d ops (fun o=>match d,o with
   |true,.norm b l h=>Q (.norm b l h)
   |true,_=>False
   |false,o=>Q o) b ops.toList l h
 | .seq x y,Q,b,l,h=>Bk cf x (fun o=>match o with
  | .norm b l h=>Bk cf y Q b l h
  |o=>Q o) b l h
 | .cond c x y,Q,b,l,h=>match ev cf.G (wP b l) c with
  |some (.bool t)=>rC t (Bk cf x Q b l h) (Bk cf y Q b l h)
  |_=>False
 | .block id c,Q,b,l,h=>Bk cf c (fun o=>match o with
  | .exit j b l h=>match Nat.decEq j id with
   |isTrue _=>Q (.norm b l h)
   |isFalse _=>Q (.exit j b l h)
  |o=>Q o) b l h
 | .loop c,Q,b,l,h=>∃o,je cf c ⟨wP b l,h⟩=some (pf.out o)/\Q o
 | .exit id,Q,b,l,h=>Q (.exit id b l h)
 | .scope c,Q,b,l,h=>Bk cf c Q b l h
 | .label _,Q,b,l,h=>Q (.norm b l h)
 | .ret,Q,b,l,h=>Q (.ret b l h)
 |_,_,_,_,_=>False
def MM:Nat->List af->iI
 |_,[]=>[]
 |k,a::xs=>(k,a)::MM (k+1) xs
theorem y9{tm:Nat->af}: ∀(xs:List af)(k:Nat),(∀i a,xs[i]?=some a->tm (k+i)=a)->rK tm (MM k xs)
 | [],_,_=>trivial
 |a::xs,k,h=>⟨h 0 a rfl,y9 xs (k+1) fun i b hb=>by rw[show k+1+i=k+(i+1) by omega];exact h (i+1) b (by simpa using hb)⟩
theorem Iy(xs:List af):wP (lP xs) (MM 0 xs)=lP xs:=x8 (y9 xs 0 fun i a h=>by unfold lP;rw[aaK,h];rfl)
def x9(cf:eP)(f:FuncId)(args:List af)(h:aG)(Q:ef->Prop):Prop:=
 match cf.P.funcs[f]? with
 |some fn=>match fn.body with
  |some c=>Bk cf c (fun o=>∃r,qx cf.P fn (some o.out)=some r/\Q r) (lP args) (MM 0 args) h
  |none=>False
 |none=>False
section
variable{cf:eP}
theorem Bl{d:Bool}{o:Oper}{base:Nat->af}{l:iI}{hp:aG}{K:iI->aG->Prop}{K':St->Option Out}{Q:pf->Prop}(hK: ∀l hp,K l hp-> ∃r,K' ⟨wP base l,hp⟩=some (pf.out r)/\Q r)(hw:TU cf d o base l hp K Q):
  ∃r,fM cf (call cf) d o ⟨wP base l,hp⟩ K'=some (pf.out r)/\Q r:=by
   have It: ∀(v:af)(h:aG),CJ l o.dst v (fun l=>K l h)-> ∃r,K' ⟨jL (wP base l) o.dst v,h⟩=some (pf.out r)/\Q r:=fun v h hh=>by
    obtain⟨l',e,hk⟩:=DM (base:=base) (K:=fun l=>K l h) hh;rw[<-e];exact hK l' h hk
   unfold TU at hw;split at hw
   ·split at hw
    ·rename_i f args hv;split at hw
     ·exact hw.elim
     ·rename_i hg;obtain⟨r,hr,hw⟩:=hw
      cases r with
      |ret v h=>
       obtain⟨r,h1,h2⟩:=It v h (qE (K:=fun v=>CJ l o.dst v fun l=>K l h) hw)
       exact⟨r,by unfold fM;simp only[hv,hg,hr];exact h1,h2⟩
      |jI v h=>exact⟨.jI v h,by unfold fM;simp only[hv,hg,hr];rfl,hw⟩
    ·rename_i v hv;exact⟨.jI v hp,by unfold fM;simp only[hv];rfl,hw⟩
    ·exact hw.elim
   ·split at hw
    ·rename_i t ht;obtain⟨r,h1,h2⟩:=It _ hp (qE (K:=fun v=>CJ l o.dst v fun l=>K l hp) (Ok (K:=fun v=>Hl cf.P o.type v fun v=>CJ l o.dst v fun l=>K l hp) hw));have hv:=(Ri (cf:=cf) (tm:=wP base l) (h:=hp) ht).2;exact⟨r,by unfold fM;simp only[hv];exact h1,h2⟩
    ·obtain⟨v,h',hv,hk⟩:=AY hw;obtain⟨r,h1,h2⟩:=It v h' (qE (K:=fun v=>CJ l o.dst v fun l=>K l h') hk);exact⟨r,by unfold fM;simp only[hv];exact h1,h2⟩
theorem zc{d:Bool}{ops:Array Oper}{o:Oper}{n:Nat}{base:Nat->af}{K:iI->aG->Prop}{K':St->Option Out}{Q:pf->Prop}(hK: ∀l hp,K l hp-> ∃r,K' ⟨wP base l,hp⟩=some (pf.out r)/\Q r)(l:iI)(hp:aG)
  (h:ML cf d ops o n base K l hp): ∃r,mC cf d ops o n K' ⟨wP base l,hp⟩=some (pf.out r)/\Q r:=by
   unfold ML at h;unfold mC;split at h
   ·rename_i hc;simp only[hc];exact hK l hp h
   ·rename_i hc;simp only[hc];split at h
    ·rename_i hq;simp only[hq];exact hK l hp h
    ·rename_i hq;simp only[hq];unfold CX;rw[if_pos h.1];exact hK l hp h.2
theorem K1{d:Bool}{ops:Array Oper}{Q:pf->Prop}{base:Nat->af}: ∀(r:List Oper)(l:iI)(hp:aG),KZ cf d ops Q base r l hp-> ∃o,kB cf (call cf) d ops r ⟨wP base l,hp⟩=some (pf.out o)/\Q o:=by
 intro r
 induction r with
 |nil=>intro l hp h;exact⟨_,rfl,h⟩
 |cons o rest ih=>
  intro l hp h;unfold KZ at h;simp only[kB]
  cases hg:eL ops o (wP base l)with
  |none=>simp only[hg]at h⊢;exact Bl (fun l hp=>zc ih l hp) h
  |some t=>
   simp only[hg]at h⊢;rcases fT h with⟨rfl,h⟩|⟨rfl,h⟩
   ·obtain⟨r,h1,h2⟩:=Bl (fun l hp=>zc ih l hp) h
    by_cases hp:kW o.op=true
    ·rw[if_pos hp];obtain⟨v,hv,hk⟩:=uP hp h1;have hk:=(lO hk).1;exact⟨r,by simp only[Gp,hv];exact hk,h2⟩
    ·rw[if_neg hp];exact⟨r,h1,h2⟩
   ·obtain⟨l',e,hk⟩:=DM (base:=base) (K:=fun l=>KZ cf d ops Q base rest l hp) h;obtain⟨r,h1,h2⟩:=ih _ _ hk;rw[e]at h1
    by_cases hp:kW o.op=true
    ·rw[if_pos hp];exact⟨r,h1,h2⟩
    ·rw[if_neg hp];exact⟨r,h1,h2⟩
theorem Bm: ∀(c:Code)(Q:pf->Prop)(b:Nat->af)(l:iI)(h:aG),Bk cf c Q b l h-> ∃o,cQ cf (call cf) (je cf) c ⟨wP b l,h⟩=some (pf.out o)/\Q o:=by
 intro c
 induction c with
 |skip=>intro Q b l h hw;exact⟨_,rfl,hw⟩
 |region id ops d=>
  intro Q b l h hw;simp only[Bk]at hw;replace hw:=xK hw;obtain⟨o,ho,hq⟩:=K1 _ _ _ hw;refine⟨o,?_,?_⟩
  ·simp only[cQ,ho]
   cases d with
   |false=>rfl
   |true=>cases o<;>first|rfl|exact hq.elim
  ·cases d with
   |false=>cases o<;>exact hq
   |true=>cases o<;>first|exact hq|exact hq.elim
 |seq x y sC sD=>
  intro Q b l h hw;obtain⟨o,ho,hw⟩:=sC _ _ _ _ hw;simp only[cQ,ho]
  cases o with
  |norm b l h=>exact sD _ _ _ _ hw
  |exit j b l h=>exact⟨_,rfl,hw⟩
  |ret b l h=>exact⟨_,rfl,hw⟩
  |jI v hp=>exact⟨_,rfl,hw⟩
 |cond c x y sC sD=>
  intro Q b l h hw;simp only[Bk]at hw;split at hw
  ·rename_i t ht;simp only[cQ,ht];rcases fT hw with⟨rfl,hw⟩|⟨rfl,hw⟩
   ·exact sC _ _ _ _ hw
   ·exact sD _ _ _ _ hw
  ·exact hw.elim
 |block id c ih=>
  intro Q b l h hw;obtain⟨o,ho,hw⟩:=ih _ _ _ _ hw;simp only[cQ,ho]
  cases o with
  |norm b l h=>exact⟨_,rfl,hw⟩
  |exit j b l h=>
   simp only at hw
   by_cases e:j=id
   ·cases hd:Nat.decEq j id with
    |isTrue _=>simp only[hd]at hw;exact⟨.norm b l h,by simp only[pf.out,if_pos e],hw⟩
    |isFalse n=>exact(n e).elim
   ·cases hd:Nat.decEq j id with
    |isTrue y=>exact(e y).elim
    |isFalse n=>simp only[hd]at hw;exact⟨.exit j b l h,by simp only[pf.out,if_neg e],hw⟩
  |ret b l h=>exact⟨_,rfl,hw⟩
  |jI v hp=>exact⟨_,rfl,hw⟩
 |loop c ih=>intro Q b l h hw;exact hw
 |exit id=>intro Q b l h hw;exact⟨_,rfl,hw⟩
 |scope c ih=>intro Q b l h hw;exact ih _ _ _ _ hw
 |label x=>intro Q b l h hw;exact⟨_,rfl,hw⟩
 |ret=>intro Q b l h hw;exact⟨_,rfl,hw⟩
 |rangeFunc f p a b _ _=>intro Q b l h hw;exact hw.elim
 |goto x=>intro Q b l h hw;exact hw.elim
 |refuse w=>intro Q b l h hw;exact hw.elim
theorem dJ{f:FuncId}{args:List af}{h:aG}{Q:ef->Prop}(hp:cf.pr f=none)(hw:x9 cf f args h Q): ∃r,call cf f args h=some r/\Q r:=by
 unfold x9 at hw;rw[vK];unfold nJ;simp only[hp];split at hw
 ·rename_i fn hf;simp only[hf];split at hw
  ·rename_i c hc;simp only[hc];obtain⟨o,ho,r,hr,hq⟩:=Bm _ _ _ _ _ hw;rw[Iy]at ho;exact⟨r,by rw[ho];exact hr,hq⟩
  ·exact hw.elim
 ·exact hw.elim
theorem dQ{c:Code}{Q:pf->Prop}{Ho:Nat->af}{Pb:aG}(I:Nat->(Nat->af)->aG->Prop)
  (round: ∀n tm hp,(∀k,(wrote c).contains k=false->tm k=Ho k)->I n tm hp-> ∃l,rK tm l/\Bk cf c (fun o=>match o with| .norm b l h=>∃m,m<n/\I m (wP b l) h|o=>Q o) tm l hp):
  ∀n,I n Ho Pb-> ∃o,je cf c ⟨Ho,Pb⟩=some (pf.out o)/\Q o:=by
   have key: ∀n tm hp,iu (wrote c) Ho tm->I n tm hp-> ∃o,je cf c ⟨tm,hp⟩=some (pf.out o)/\Q o:=by
    intro n
    induction n using Nat.strongRecOn with
    |_ n ih=>
     intro tm hp ha hI;obtain⟨l,hl,hw⟩:=round n tm hp ha hI;obtain⟨o,ho,h⟩:=Bm _ _ _ _ _ hw;rw[x8 hl]at ho;have hf:=sS (yV cf) c _ _ ho;rw[vL];unfold iN;simp only[ho]
     cases o with
     |norm b l' h'=>
      obtain⟨m,hm,V0⟩:=h
      exact ih m hm (wP b l') h' (ha.trans hf) V0
     |exit j b l h=>exact⟨_,rfl,h⟩
     |ret b l h=>exact⟨_,rfl,h⟩
     |jI v hp=>exact⟨_,rfl,h⟩
   exact fun n hI=>key n Ho Pb (iu.refl _ _) hI
end
end Go.Am
set_option maxHeartbeats 4000000
namespace Go.Proofs.YtfepbikckfehlaaGreat
open Go Go.Am
variable{pr:bW}(hp:cF pr)
set_option maxRecDepth 100000
theorem kz(hp:cF pr){f:FuncId}{args:List af}{res:af}(hn:UO f=true)(ha:dc [] args=some args)(hw:x9 (dZ pr) f args [] (fun r=>∃v h,r= .ret v h/\snap h v=some res)):dK pr f args res:=by
 intro h;obtain⟨r,hr,v,h1,rfl,hs⟩:=dJ (hp.out f (by unfold UO at hn;simp only[xz]at hn;exact hn.1)) hw;have hm:(dZ pr).M f= .P:=zU hn;unfold cj;simp only[hm,ha,hr,hs,aaL]
theorem nh{pr:bW}(hp:cF pr){f:FuncId}{args:List af}{d:bg}(hn:plain f=true)(hw:x9 (dZ pr) f args [] (fun r=>∃v h F,r= .ret v h/\cq h d v F/\F.Nodup)):lZ pr f args d:=by
 obtain⟨r,hr,v,h,F,rfl,h1,h2⟩:=dJ (hp.out f hn) hw;exact⟨v,h,F,hr,h1,h2⟩
theorem gT{pr:bW}(hp:cF pr){f:FuncId}{args:List af}{ds:List bg}(hn:plain f=true)(hw:x9 (dZ pr) f args [] (fun r=>∃vs h F,r= .ret (.eT vs) h/\cZ h ds vs F/\F.Nodup)):nc pr f args ds:=by
 obtain⟨r,hr,vs,h,F,rfl,h1,h2⟩:=dJ (hp.out f hn) hw;exact⟨vs,h,F,hr,h1,h2⟩
theorem s9{pr:bW}(hp:cF pr){f:FuncId}{args:List af}{sz:Nat}{xs:List bg}(hn:plain f=true)(hw:x9 (dZ pr) f args [] (fun r=>∃v h F,r= .ret v h/\sv sz h xs v F/\F.Nodup)):u0 pr f args sz xs:=by
 obtain⟨r,hr,v,h,F,rfl,h1,h2⟩:=dJ (hp.out f hn) hw;exact⟨v,h,F,hr,h1,h2⟩
theorem UU{h:aG}{vs ws:List af}(hb:vs=ws)(hs:ws.all af.isScalar=true): ∃r,some (ef.ret (.eT vs) h)=some r/\ ∃v h1,r=ef.ret v h1/\snap h1 v=some (.eT ws):=⟨_,rfl,_,_,rfl,by
 subst hb
 have key: ∀l:List af,l.all af.isScalar=true->di (cI h 4194303) l=some l:=fun l=>by
  induction l with
  |nil=>intro _;rfl
  |cons x xs ih=>
   intro hl;simp only[abi,xz]at hl;have hx:cI h 4194303 x=some x:=by cases x<;>first|rfl|(simp[af.isScalar]at hl)
   simp only[di,hx,ih hl.2]
 show(di (cI h 4194303) vs).map af.eT=_;rw[key vs hs];rfl⟩
theorem tc{h:aG}{res e:Int×Bool}(he:res=e): ∃r,some (ef.ret (.eT [i64 e.1,.bool e.2]) h)=some r/\ ∃v h1,r=ef.ret v h1/\snap h1 v=some (.eT [i64 res.1,.bool res.2]):=by
 subst he;exact UU rfl rfl
theorem K4{h:aG}{res:Bool×Bool}{a b:Bool}(he:res=(a,b)): ∃r,some (ef.ret (.eT [.bool a,.bool b]) h)=some r/\ ∃v h1,r=ef.ret v h1/\snap h1 v=some (.eT [.bool res.1,.bool res.2]):=by
 subst he;exact UU rfl rfl
def Ct(r:List Int)(i:Int):Int:=(r[i.toNat]?).getD 0
theorem rL{r:List Int}{i:Int}(h0:0<=i)(h1:i<r.length):(r.map i64)[i.toNat]?=some (i64 (Ct r i)):=by
 have:i.toNat<r.length:=by omega
 simp[Ct,this]
def rM(c:Cell)(r:List Int):Int:=if c.au=1 then Ct r c.a else if c.au=3 then lK (Ct r c.a) (Ct r c.b)else c.n
def cellOf(c:Cell)(r:List Int):Int×Bool:=if o8 r&&(fe c r.length&&bQ (rM c r))then(rM c r,true)else(0,false)
theorem Rj{c:Cell}{r:List Int}(h:fe c r.length=true):(c.au=1∨c.au=3->0<=c.a/\c.a<r.length)/\(c.au=3->0<=c.b/\c.b<r.length):=by
 unfold fe at h;refine⟨fun hk=>?_,fun hk=>?_⟩
 ·rcases hk with hk|hk<;>simp[hk,col]at h<;>omega
 ·simp[hk,col]at h;omega
theorem ya(hp:cF pr)(c:Cell)(r:List Int)(hl:r.length<=dB):dK pr 162 [c.enc,.sl (r.map i64)] (.eT [i64 (cellOf c r).1,.bool (cellOf c r).2]):=by
 have h1:=wK hp r hl;have h2:=tO hp c r.length;have h3:=fun n=>wx hp n;have hi:=@Rj c r;have aQ:cellOf c r=cellOf c r:=rfl;conv at aQ=>rhs;unfold cellOf
 generalize cellOf c r=res at aQ⊢;obtain⟨k,a,b,n⟩:=c;simp only at hi;refine kz hp rfl rfl ?_;have S:=aj.nil [];conv=>whnf
 intro k1 a1 eg er;replace S:=S.alloc eg er;conv=>whnf
 refine⟨_,h1 _,?_⟩;conv=>whnf
 refine ae (fun g1=>?_) (fun g1=>?_)
 ·refine aC (S.row 0 rfl) ?_;conv=>whnf
  rw[aat];refine⟨_,h2 _,?_⟩;conv=>whnf
  refine ae (fun g2=>?_) (fun g2=>?_)
  ·obtain⟨Xu,xE⟩:=hi g2;refine aC (S.row 0 rfl) ?_;refine aC (S.row 0 rfl) ?_;conv=>whnf
   refine ae (fun g3=>?_) (fun g3=>?_)
   ·have g3:k=1:=by simpa using g3
    subst g3;have ha:=rL (Xu (.inl rfl)).1 (Xu (.inl rfl)).2;refine aC (S.row 0 rfl) ?_;conv=>whnf
    refine⟨_,ha,(Xu (.inl rfl)).1,rfl,?_⟩;conv=>whnf
    refine⟨_,h3 _ _,?_⟩;conv=>whnf
    refine ae (fun g4=>?_) (fun g4=>?_)
    ·conv=>whnf
     exact tc (e:=(Ct r a,true)) (by rw[aQ];simp[rM,g1,g2,g4])
    ·conv=>whnf
     exact tc (e:=(0,false)) (by rw[aQ];simp[rM,g1,g2,g4])
   ·have g3: ¬k=1:=by simpa using g3
    conv=>whnf
    refine ae (fun g5=>?_) (fun g5=>?_)
    ·have g5:k=3:=by simpa using g5
     subst g5;have ha:=rL (Xu (.inr rfl)).1 (Xu (.inr rfl)).2;have hb:=rL (xE rfl).1 (xE rfl).2;refine aC (S.row 0 rfl) ?_;conv=>whnf
     refine⟨_,ha,(Xu (.inr rfl)).1,rfl,?_⟩;refine aC (S.row 0 rfl) ?_;conv=>whnf
     refine⟨_,hb,(xE rfl).1,rfl,?_⟩;conv=>whnf
     refine⟨_,h3 _ _,?_⟩;conv=>whnf
     have hv:rM ⟨3,a,b,n⟩ r=IntKind.i64.wrap (Ct r a+Ct r b):=rfl;refine ae (fun g4=>?_) (fun g4=>?_)
     ·conv=>whnf
      exact tc (e:=(lK (Ct r a) (Ct r b),true)) (by rw[aQ];simp[hv,g1,g2,g4];rfl)
     ·conv=>whnf
      exact tc (e:=(0,false)) (by rw[aQ];simp[hv,g1,g2,g4])
    ·have g5: ¬k=3:=by simpa using g5
     have hv:rM ⟨k,a,b,n⟩ r=n:=by simp[rM,g3,g5]
     conv=>whnf
     refine⟨_,h3 _ _,?_⟩;conv=>whnf
     refine ae (fun g4=>?_) (fun g4=>?_)
     ·conv=>whnf
      exact tc (e:=(n,true)) (by rw[aQ];simp[hv,g1,g2,g4])
     ·conv=>whnf
      exact tc (e:=(0,false)) (by rw[aQ];simp[hv,g1,g2,g4])
  ·conv=>whnf
   exact tc (e:=(0,false)) (by rw[aQ];simp[g1,g2])
 ·conv=>whnf
  exact tc (e:=(0,false)) (by rw[aQ];simp[g1])
def jZ(t:Test)(r:List Int):Bool×Bool:=
 if o8 r&&(kZ t r.length&&((cellOf t.l r).2&&(cellOf t.r r).2))then
  ((if t.au=2 then(cellOf t.l r).1==(cellOf t.r r).1 else decide ((cellOf t.l r).1<(cellOf t.r r).1)) != t.no,true)
 else(false,false)
theorem Ol(hp:cF pr)(t:Test)(r:List Int)(hl:r.length<=dB):dK pr 152 [t.enc,.sl (r.map i64)] (.eT [.bool (jZ t r).1,.bool (jZ t r).2]):=by
 have h1:=wK hp r hl;have h2:=oa hp t r.length;have h3:=ya hp t.l r hl;have h4:=ya hp t.r r hl;have hv:jZ t r=jZ t r:=rfl;conv at hv=>rhs;unfold jZ
 generalize jZ t r=res at hv⊢;generalize cellOf t.l r=u at h3 hv;generalize cellOf t.r r=w at h4 hv;obtain⟨k,no,⟨lk,la,lb,ln⟩,⟨rk,ra,rb,rn⟩⟩:=t;obtain⟨u1,u2⟩:=u;obtain⟨w1,w2⟩:=w;simp only at h3 h4 hv;refine kz hp rfl rfl ?_;have S:=aj.nil [];conv=>whnf
 intro k1 a1 eg er;replace S:=S.alloc eg er;conv=>whnf
 refine⟨_,h1 _,?_⟩;conv=>whnf
 refine ae (fun g1=>?_) (fun g1=>?_)
 ·refine aC (S.row 0 rfl) ?_;conv=>whnf
  rw[aat];refine⟨_,h2 _,?_⟩;conv=>whnf
  refine ae (fun g2=>?_) (fun g2=>?_)
  ·refine aC (S.row 0 rfl) ?_;conv=>whnf
   refine⟨_,h3 _,?_⟩
   iterate 14
    all_goals(try(conv=>whnf))
    all_goals(first|(intro iK cp ee bf;replace S:=S.alloc ee bf)|(refine aC (S.row 0 rfl) ?_)|(refine⟨_,rfl,rfl,rfl,.inl ⟨_,S.row 0 rfl,rfl,?_⟩⟩;(conv=>whnf);intro cp bf;replace S:=S.w0 bf)|(refine ae (fun hb=>?_) (fun hb=>?_))|(refine⟨_,h4 _,?_⟩)|skip)
   all_goals(try(conv=>whnf))
   all_goals exact K4 (by rw[hv];simp_all)
  ·conv=>whnf
   exact K4 (by rw[hv];simp[g1,g2])
 ·conv=>whnf
  exact K4 (by rw[hv];simp[g1])
end Go.Proofs.YtfepbikckfehlaaGreat
set_option maxHeartbeats 4000000
namespace Go.Proofs.YtfepbikckfehlaaGreat
open Go Go.Am
variable{pr:bW}(hp:cF pr)(hs:DE pr)
set_option maxRecDepth 100000
mutual
def ni:Nat->bz->Bool
 |0,_=>false
 |d+1,.mk p l r ks=>(ks.length==p.ao.length)&&(kO fq p.au l r&&nO d ks p.ao)
def nO:Nat->List bz->List aA->Bool
 |d,f::fs,q::qs=>(eY f.ez q&&ni d f)&&nO d fs qs
 |_,_,_=>true
end
theorem Rk{d:Nat}{ks:List bz}{qs:List aA}{j:Nat}(h1:j<ks.length)(h2:j<qs.length):nO d (ks.drop j) (qs.drop j)=((eY ks[j].ez qs[j]&&ni d ks[j])&&nO d (ks.drop (j+1)) (qs.drop (j+1))):=by
 rw[aaf h1,aaf h2,nO]
theorem Om{d:Nat}{ks:List bz}{qs:List aA}:nO d (ks.drop ks.length) qs=true:=by
 rw[aal,nO]
 intros
 simp_all
theorem Rl(hp:cF pr): ∀(d:Nat)(f:bz),f.d.fA<=1048576->d<=6->dK pr 98 [f.enc,i64 d] (.bool (ni d f)):=by
 intro d
 induction d with
 |zero=>
  intro f ht hd;obtain⟨⟨au,n,aD,cells,a,b,aq,agg,c,ao⟩,l,r,ks⟩:=f;refine ff hp rfl rfl ?_;have S:=aj.nil [];conv=>whnf
  intro k1 a1 eg er;replace S:=S.alloc eg er;conv=>whnf
  exact br (by simp[ni])
 |succ d ih=>
  intro f ht hd;obtain⟨⟨au,n,aD,cells,a,b,aq,agg,c,ao⟩,l,r,ks⟩:=f;rw[jY]at ht;have hl:=qN hp l (eV (by omega));have hr:=qN hp r (eV (by omega));have kD:=eH ao;have GL:=mc ks;have gu:(aA.mk au n aD cells a b aq agg c ao).small:=by unfold aA.small;omega
  obtain⟨sc,lf,gS,gE⟩:=eE gu;have hw:=xQ d (by omega);have eZ: ∀k∈ks,dK pr 98 [k.enc,.int .i64 (IntKind.i64.wrap (((d+1:Nat):Int)-1))] (.bool (ni d k)):=fun k hk=>hw▸ih k (by have:=eA (f:=bz.d) hk;omega) (by omega)
  have Dd: ∀k∈ks,∀q∈ao,dK pr 105 [k.ez.enc,q.enc] (.bool (eY k.ez q)):=fun k hk q hq=>y8 hp _ q (by
   have:=eA (f:=bz.d) hk;obtain⟨p',l',r',kC⟩:=k;rw[jY]at this;simp only[bz.ez,aA.small];omega) (gE q hq)
  have abG:ks.length<=1048576:=by omega
  clear ih ht hw;generalize hR:ni (d+1) (.mk (.mk au n aD cells a b aq agg c ao) l r ks)=R;rw[ni,kO]at hR;simp only[aA.au,aA.ao]at hR;refine ff hp rfl rfl ?_;have S:=aj.nil [];conv=>whnf
  intro k1 a1 eg er;replace S:=S.alloc eg er;clear eg er;refine aC (S.row 0 rfl) ?_;refine aC (S.row 0 rfl) ?_;conv=>whnf
  refine ae (fun g0=>?_) (fun g0=>?_)
  ·conv=>whnf
   exact br (by rw[<-hR];rw[kD,GL]at g0;have:(ks.length==ao.length)=false:=by simp at g0⊢;omega
                rw[this];rfl)
  ·have hlen:ks.length=ao.length:=by rw[kD,GL]at g0;simp at g0;omega
   rw[show(ks.length==ao.length)=true by simp[hlen],aay]at hR;clear g0;refine aC (S.row 0 rfl) ?_;conv=>whnf
   refine⟨_,hl _,?_⟩;conv=>whnf
   refine ae (fun g1=>?_) (fun g1=>?_)
   ·rw[g1,aay]at hR;refine aC (S.row 0 rfl) ?_;conv=>whnf
    refine⟨_,hr _,?_⟩;conv=>whnf
    refine ae (fun g2=>?_) (fun g2=>?_)
    ·rw[g2,aay]at hR;have S0:aj a1 [.row k1 (.box (bz.mk (.mk au n aD cells a b aq agg c ao) l r ks).enc)]:=S;clear S;have S:=S0;clear S0;have e1:l.isEmpty=true↔l.length=0:=by cases l<;>simp
     have e2:r.isEmpty=true↔r.length=0:=by cases r<;>simp
     iterate 14
      all_goals(try(conv=>whnf))
      all_goals(first|(intro iK cp ee bf;replace S:=S.alloc ee bf)|(refine aC (S.row 0 rfl) ?_)|(refine⟨_,rfl,rfl,rfl,.inl ⟨_,S.row 0 rfl,rfl,?_⟩⟩;(conv=>whnf);intro cp bf;replace S:=S.w0 bf)|(refine ae (fun hb=>?_) (fun hb=>?_))|skip)
     all_goals(try(conv=>whnf))
     all_goals first
      |exact br (by rw[<-hR];clear hR eZ Dd S hl hr;cases l<;>cases r<;>simp_all[js])
      |skip
     all_goals
      have aF:nO d ks ao=R:=by rw[<-hR];clear hR eZ Dd S hl hr;cases l<;>cases r<;>simp_all[js]
      clear hR;refine iv (fun m tm hp=>∃(j:Nat),j+m=ks.length/\tm 7=i64 (j:Nat)/\aj hp [.row k1 (.box (bz.mk (.mk au n aD cells a b aq agg c ao) l r ks).enc)]/\(nO d (ks.drop j) (ao.drop j)=R)) (fun m tm hq bG hI=>?_) (ks.length) ⟨0,by simp,(by first|rfl|kernel_rfl|simp),S,(aF)⟩;obtain⟨j,hj,e7,S2,aF⟩:=hI;have k1:=bG 1 (by kernel_rfl);conv at k1=>rhs;whnf
      rw[<-aR k1];have k2:=bG 2 (by kernel_rfl);conv at k2=>rhs;whnf
      rw[<-aR k2];rw[<-aR e7];clear bG k1 k2 e7;clear S;have S:=S2;clear S2;refine aC (S.row 0 rfl) ?_;conv=>whnf
      refine ae (fun h1=>?_) (fun h1=>?_)
      ·have bp:j<ks.length:=by rw[GL]at h1;simpa using h1
       have Pj:j<ao.length:=by omega
       have dw:(bz.dv ks)[((j:Nat):Int).toNat]?=some (bz.enc ks[j]):=by rw[aaa,rJ,aab bp];rfl
       have V6:(aA.dv ao)[((j:Nat):Int).toNat]?=some (aA.enc ao[j]):=by rw[aaa,fN,aab Pj];rfl
       rw[Rk bp Pj]at aF;have h2:=Dd _ (aac bp) _ (aac Pj);have h3:=eZ _ (aac bp);generalize ks[j]=x at dw aF h2 h3;generalize ao[j]=q at V6 aF h2;obtain⟨⟨cG,n',dq,bR,a',b',cH,dE,c',cE⟩,l',r',kC⟩:=x;obtain⟨oJ,n2,oL,lg,NX,b2,oM,uT,c2,oN⟩:=q;simp only[bz.ez]at h2 aF;refine aC (S.row 0 rfl) ?_;conv=>whnf
       refine⟨_,dw,by omega,rfl,?_⟩;refine aC (S.row 0 rfl) ?_;conv=>whnf
       refine⟨_,V6,by omega,rfl,?_⟩;conv=>whnf
       refine⟨_,h2 _,?_⟩;conv=>whnf
       refine ae (fun g4=>?_) (fun g4=>?_)
       ·rw[g4,aay]at aF;refine aC (S.row 0 rfl) ?_;conv=>whnf
        refine⟨_,dw,by omega,rfl,?_⟩;conv=>whnf
        refine⟨_,h3 _,?_⟩;conv=>whnf
        refine ae (fun g5=>?_) (fun g5=>?_)
        ·rw[g5,aay]at aF;conv=>whnf
         exact⟨m-1,by omega,j+1,by omega,aP j (by omega),S,aF⟩
        ·conv=>whnf
         exact br (by rw[<-aF,g5];rfl)
       ·conv=>whnf
        exact br (by rw[<-aF,g4];rfl)
      ·have bp:j=ks.length:=by
        have: ¬j<ks.length:=by rw[GL]at h1;simpa using h1
        omega
       conv=>whnf
       exact br (by rw[<-aF,bp,Om])
    ·conv=>whnf
     exact br (by rw[<-hR,g2];simp)
   ·conv=>whnf
    exact br (by rw[<-hR,g1];rfl)
end Go.Proofs.YtfepbikckfehlaaGreat
set_option maxHeartbeats 4000000
namespace Go.Proofs.YtfepbikckfehlaaGreat
open Go Go.Am
theorem DN: ∀a:List Int,jc a a=0
 | []=>rfl
 |x::xs=>by simp only[jc];simp[DN xs]
theorem Fi: ∀{a b:List Int},jc a b=0->a=b
 | [],[],_=>rfl
 | [],_::_,h=>by simp[jc]at h
 |_::_,[],h=>by simp[jc]at h
 |x::xs,y::ys,h=>by
  simp only[jc]at h;split at h
  ·simp at h
  ·split at h
   ·simp at h
   ·have:=Fi h;have e:x=y:=by omega
    rw[this,e]
theorem DO: ∀(a b:List Int),jc b a= -jc a b
 | [],[]=>rfl
 | [],_::_=>rfl
 |_::_,[]=>rfl
 |x::xs,y::ys=>by
  simp only[jc]
  by_cases h1:x<y
  ·have: ¬y<x:=by omega
   simp[h1,this]
  ·by_cases h2:x>y
   ·have:y<x:=h2;simp[h1,this]
   ·have e1: ¬y<x:=h2;have e2: ¬y>x:=h1;simp only[h1,h2,e1,e2,if_false];exact DO xs ys
theorem Bn: ∀{a b c:List Int},jc a b<0->jc b c<0->jc a c<0
 | [],[],_,h,_=>by simp[jc]at h
 | [],_::_,[],_,h=>by simp[jc]at h
 | [],_::_,_::_,_,_=>by simp[jc]
 |_::_,[],_,h,_=>by simp[jc]at h
 |_::_,_::_,[],_,h=>by simp[jc]at h
 |x::xs,y::ys,z::zs,h1,h2=>by
  have ih:=@Bn xs ys zs;simp only[jc]at h1 h2⊢;split at h1<;>split at h2
  ·rw[if_pos (by omega)];omega
  ·split at h2
   ·omega
   ·rw[if_pos (by omega)];omega
  ·split at h1
   ·omega
   ·rw[if_pos (by omega)];omega
  ·split at h1
   ·omega
   ·split at h2
    ·omega
    ·rw[if_neg (by omega),if_neg (by omega)];exact ih h1 h2
theorem nj(a b:List Int):fl a b=true↔jc a b<0:=by rw[<-E4];simp
theorem CK(a b:List Int):fl a b=false↔ ¬jc a b<0:=by rw[<-E4];simp
theorem ze(a:List Int):bZ (· == ·) a a=true:=by
 induction a with
 |nil=>rfl
 |cons x xs ih=>simp[bZ,ih]
theorem lE(a b:List Int):fL a b=true↔a=b:=by
 unfold fL;constructor
 ·intro h
  induction a generalizing b with
  |nil=>cases b with|nil=>rfl|cons y ys=>simp[bZ]at h
  |cons x xs ih=>
   cases b with
   |nil=>simp[bZ]at h
   |cons y ys=>
    simp only[bZ,xz,beq_iff_eq]at h;rw[h.1,ih _ h.2]
 ·rintro rfl;exact ze a
theorem qt{a b c:List Int}(h1:fl a b=true)(h2:fl b c=true):fl a c=true:=by
 rw[nj]at*;exact Bn h1 h2
def lF:List Item->Prop
 | []=>True
 |x::xs=>(∀y∈xs,fl x.row y.row=true)/\lF xs
theorem On{z:List Item}: ∀{q:Option (List Int)},DJ q z=true->lF z/\ ∀r,q=some r-> ∀y∈z,fl r y.row=true:=by
 induction z with
 |nil=>intro q _;exact⟨trivial,fun r _ y hy=>by simp at hy⟩
 |cons x xs ih=>
  intro q h;simp only[DJ,xz]at h;obtain⟨⟨h1,h2,h3⟩,h4⟩:=h;obtain⟨g1,g2⟩:=ih h4;refine⟨⟨fun y hy=>g2 _ rfl y hy,g1⟩,fun r hr y hy=>?_⟩;subst hr;simp only at h3;rcases aaz.1 hy with rfl|hy
  ·exact h3
  ·exact qt h3 (g2 _ rfl y hy)
theorem qO{z:List Item}(h:dS z=true):lF z:=by
 simp only[dS,xz]at h;exact(On h.2).1
theorem YY{z:List Item}: ∀{q:Option (List Int)},DJ q z=true-> ∀x∈z,Pk x.w=true/\o8 x.row=true:=by
 induction z with
 |nil=>intro q _ x hx;simp at hx
 |cons y ys ih=>
  intro q h x hx;simp only[DJ,xz]at h;rcases aaz.1 hx with rfl|hx
  ·exact⟨h.1.2.1,h.1.1⟩
  ·exact ih h.2 x hx
theorem MN{z:List Item}(h:dS z=true): ∀x∈z,x.w≠0:=fun x hx=>by
 simp only[dS,xz]at h;have:=(YY h.2 x hx).1;intro e;simp[Pk,e]at this
theorem K6{z:List Item}(hz:lF z)(r:List Int)(w:Int):lF (hY z r w):=by
 induction z with
 |nil=>unfold hY;split<;>simp[lF]
 |cons x xs ih=>
  have key: ∀y∈hY xs r w,fl x.row r=true->fl x.row y.row=true:=fun y hy hr=>by
   rcases qM y hy with e|⟨u,hu,e⟩
   ·rw[e];exact hr
   ·rw[e];exact hz.1 u hu
  unfold hY;split
  ·rename_i h;exact⟨fun y hy=>key y hy h,ih hz.2⟩
  ·rename_i h;split
   ·split
    ·exact hz.2
    ·exact⟨fun y hy=>hz.1 y hy,hz.2⟩
   ·rename_i h2;split
    ·exact hz
    ·have fK:fl r x.row=true:=by
      rw[nj]
      have h1: ¬jc x.row r<0:=by
       rw[<-nj];simpa using h
      have h3:jc x.row r≠0:=fun e=>by
       have:=Fi e;rw[this,lE]at h2;exact h2 rfl
      have:=DO x.row r;omega
     refine⟨fun y hy=>?_,hz⟩;rcases aaz.1 hy with rfl|hy
     ·exact fK
     ·exact qt fK (hz.1 y hy)
theorem Bo{a:List Item}(ha:lF a)(b:List Item):lF (dt a b):=by
 unfold dt
 induction b generalizing a with
 |nil=>exact ha
 |cons y ys ih=>exact ih (K6 ha _ _)
theorem tV{x:Item}{xs:List Item}{b:List Item}(h: ∀y∈b,fl x.row y.row=true):dt (x::xs) b=x::dt xs b:=by
 unfold dt
 induction b generalizing xs with
 |nil=>rfl
 |cons y ys ih=>
  simp only[List.foldl_cons];rw[show hY (x::xs) y.row y.w=x::hY xs y.row y.w by rw[hY,if_pos (h y (by simp))]];exact ih fun z hz=>h z (by simp[hz])
theorem md: ∀{b:List Item},lF b->(∀x∈b,x.w≠0)->dt [] b=b
 | [],_,_=>rfl
 |y::ys,hb,hw=>by
  have h1:hY [] y.row y.w=[y]:=by
   unfold hY;rw[if_neg (by simpa using hw y (by simp))]
  show dt (hY [] y.row y.w) ys=_;rw[h1,tV hb.1,md hb.2 fun x hx=>hw x (by simp[hx])]
theorem Iz: ∀(n:Nat)(a b:List Item),a.length+b.length<=n->lF a->lF b->(∀x∈b,x.w≠0)->eI a b=dt a b:=by
 intro n
 induction n with
 |zero=>intro a b h _ _ _;have ha:a=[]:=aaM.1 (by omega);have hb:b=[]:=aaM.1 (by omega);subst ha;subst hb;simp[eI,dt]
 |succ n ih=>
  intro a b h ha hb hw
  cases a with
  |nil=>rw[u9,md hb hw]
  |cons x xs=>
   cases b with
   |nil=>rw[s6];rfl
   |cons y ys=>
    simp only[aak]at h;rw[eI]
    by_cases h1:jc x.row y.row<0
    ·rw[if_pos h1,tV,ih xs (y::ys) (by simp;omega) ha.2 hb hw];intro z hz;rcases aaz.1 hz with rfl|hz
     ·rw[nj];exact h1
     ·exact qt (by rw[nj];exact h1) (hb.1 z hz)
    ·rw[if_neg h1];have Mj:fl x.row y.row=false:=by rw[CK];exact h1
     by_cases h2:jc x.row y.row>0
     ·rw[if_pos h2,ih (x::xs) ys (by simp;omega) ha hb.2 fun z hz=>hw z (by simp[hz])]
      have Vs:fL x.row y.row=false:=by
       cases hc:fL x.row y.row with
       |false=>rfl
       |true=>rw[lE]at hc;rw[hc,DN]at h2;omega
      have hp:hY (x::xs) y.row y.w=y::x::xs:=by
       rw[hY,if_neg (by rw[Mj];simp),if_neg (by rw[Vs];simp),if_neg (by simpa using hw y (by simp))]
      show _=dt (hY (x::xs) y.row y.w) ys;rw[hp];rw[tV hb.1]
     ·rw[if_neg h2];have he:x.row=y.row:=Fi (by omega);have hs:fL x.row y.row=true:=by rw[lE];exact he
      have hp:hY (x::xs) y.row y.w=if lK x.w y.w==0 then xs else⟨x.row,lK x.w y.w⟩::xs:=by
       rw[hY,if_neg (by rw[Mj];simp),if_pos hs]
      show _=dt (hY (x::xs) y.row y.w) ys;rw[hp,ih xs ys (by omega) ha.2 hb.2 fun z hz=>hw z (by simp[hz])]
      cases hc:(lK x.w y.w==0)with
      |true=>
       have:(lK x.w y.w != 0)=false:=by simp[bne,hc]
       rw[this]
       rfl
      |false=>
       have:(lK x.w y.w != 0)=true:=by simp[bne,hc]
       rw[this];show Q5 x y::dt xs ys=dt (⟨x.row,lK x.w y.w⟩::xs) ys;rw[tV (x:=⟨x.row,lK x.w y.w⟩)]
       ·rfl
       ·intro z hz;show fl x.row z.row=true;rw[he];exact hb.1 z hz
theorem DP{a b:List Item}(ha:lF a)(hb:dS b=true):eI a b=dt a b:=Iz _ a b (aah _) ha (qO hb) (MN hb)
end Go.Proofs.YtfepbikckfehlaaGreat

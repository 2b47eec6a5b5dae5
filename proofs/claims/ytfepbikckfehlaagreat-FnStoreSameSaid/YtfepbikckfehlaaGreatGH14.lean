/- How wide plans are. -/
import Derived.Test.YtfepbikckfehlaaGreatGH13
set_option linter.unusedVariables false
set_option linter.unusedSimpArgs false
set_option maxHeartbeats 4000000
namespace Go.Proofs.YtfepbikckfehlaaGreat
open Go Go.Am
variable{pr:bW}(hp:cF pr)
set_option maxRecDepth 100000
theorem A4(hp:cF pr)(n:Int)(aD:Test)(cells:List Cell)(a b:Int)(aq:List Int)(agg c:Int)(ao:List aA)(w v:Int)(ws:List Int):
  dK pr 210 [.agg [],(aA.mk 4 n aD cells a b aq agg c ao).enc,.sl ((w::v::ws).map i64)] (i64 (bU (aA.mk 4 n aD cells a b aq agg c ao) (w::v::ws))):=by
   have h1:=oc hp a w;have h2:=oc hp b v;have Dw:=fun ok=>na hp ok (IntKind.i64.wrap (w+v));have xP:bU (aA.mk 4 n aD cells a b aq agg c ao) (w::v::ws)=if col a w&&col b v then IntKind.i64.wrap (w+v)else-1:=rfl
   rw[xP];refine cX hp rfl rfl ?_
   iterate 10
    all_goals(try(conv=>whnf))
    all_goals(first|(refine⟨i64 w,rfl,by omega,rfl,?_⟩)|(refine⟨i64 v,rfl,by omega,rfl,?_⟩)|(refine ae (fun hb=>?_) (fun hb=>?_))|(refine⟨_,h1 _,?_⟩)|(refine⟨_,h2 _,?_⟩)|(refine⟨_,Dw _ _,?_⟩)|skip)
   all_goals exact cu (by clear h1 h2 Dw xP;simp_all)
theorem A5(hp:cF pr)(n:Int)(aD:Test)(cells:List Cell)(a b:Int)(aq:List Int)(agg c:Int)(ao:List aA)(w v:Int)(ws:List Int):
  dK pr 216 [.agg [],(aA.mk 5 n aD cells a b aq agg c ao).enc,.sl ((w::v::ws).map i64)] (i64 (bU (aA.mk 5 n aD cells a b aq agg c ao) (w::v::ws))):=by
   have Dw:=fun ok=>na hp ok w;have xP:bU (aA.mk 5 n aD cells a b aq agg c ao) (w::v::ws)=if w==v then w else-1:=rfl
   rw[xP];refine cX hp rfl rfl ?_
   iterate 10
    all_goals(try(conv=>whnf))
    all_goals(first|(refine⟨i64 w,rfl,by omega,rfl,?_⟩)|(refine⟨i64 v,rfl,by omega,rfl,?_⟩)|(refine ae (fun hb=>?_) (fun hb=>?_))|(refine⟨_,Dw _ _,?_⟩)|skip)
   all_goals exact cu (by clear Dw xP;simp_all)
theorem A6(hp:cF pr)(n:Int)(aD:Test)(cells:List Cell)(a b:Int)(aq:List Int)(agg c:Int)(ao:List aA)(w:Int)(ws:List Int):
  dK pr 221 [.agg [],(aA.mk 6 n aD cells a b aq agg c ao).enc,.sl ((w::ws).map i64)] (i64 (bU (aA.mk 6 n aD cells a b aq agg c ao) (w::ws))):=by
   refine cX hp rfl rfl ?_
   iterate 3
    all_goals(try(conv=>whnf))
    all_goals(first|(refine⟨i64 w,rfl,by omega,rfl,?_⟩)|(refine ae (fun hb=>?_) (fun hb=>?_))|skip)
   exact cu rfl
theorem yZ(hp:cF pr)(n:Int)(aD:Test)(cells:List Cell)(a b:Int)(aq:List Int)(agg c:Int)(ao:List aA)(w:Int)(ws:List Int)(hl:aq.length<=1048576):
  dK pr 226 [.agg [],(aA.mk 7 n aD cells a b aq agg c ao).enc,.sl ((w::ws).map i64)] (i64 (bU (aA.mk 7 n aD cells a b aq agg c ao) (w::ws))):=by
   have h1:=NP hp aq w hl;have h2:=oc hp c w;have Cu:IntKind.i64.wrap (((aq.map i64).length:Int)+1)=(aq.length:Int)+1:=by rw[aaC];simp;omega
   have Dw:=fun ok=>na hp ok (IntKind.i64.wrap (((aq.map i64).length:Int)+1));have xP:bU (aA.mk 7 n aD cells a b aq agg c ao) (w::ws)=if decide (0<=agg)&&(decide (agg<=3)&&(eU aq w&&col c w))then(aq.length:Int)+1 else-1:=rfl
   rw[xP];refine cX hp rfl rfl ?_
   iterate 14
    all_goals(try(conv=>whnf))
    all_goals(first|(refine⟨i64 w,rfl,by omega,rfl,?_⟩)|(refine ae (fun hb=>?_) (fun hb=>?_))|(refine⟨_,h1 _,?_⟩)|(refine⟨_,h2 _,?_⟩)|(refine⟨_,Dw _ _,?_⟩)|skip)
   all_goals exact cu (by rw[Cu];clear h1 h2 Dw xP Cu;simp_all;try omega)
def shaped(p:aA):Bool:=(cU p.au==(p.ao.length:Int))&&clean p
theorem Tw(p:aA)(h:cU p.au≠ -1):eY (.mk p.au p.n p.aD p.cells p.a p.b p.aq p.agg p.col []) (only p)=clean p:=by
 obtain⟨au,n,⟨tk,tn,⟨a1,a2,a3,a4⟩,⟨b1,b2,b3,b4⟩⟩,cells,a,b,aq,agg,c,ao⟩:=p
 have qc: ∀l:List Cell,bZ kH l l=true:=fun l=>by
  induction l with
  |nil=>rfl
  |cons x l ih=>simp only[bZ,ih];simp[kH]
 have ZD: ∀l:List Int,bZ (fun x y:Int=>x==y) l l=true:=fun l=>by
  induction l with
  |nil=>rfl
  |cons x l ih=>simp only[bZ,ih];simp
 have hcn: ∀l:List Cell,bZ kH l []=l.isEmpty:=fun l=>by cases l<;>rfl
 have UC: ∀l:List Int,bZ (fun x y:Int=>x==y) l []=l.isEmpty:=fun l=>by cases l<;>rfl
 rcases fU au with rfl|rfl|rfl|rfl|rfl|rfl|rfl|⟨h1,h2,h3,h4,h5,h6,h7⟩
 iterate 7
  ·simp only[aA.au,aA.n,aA.aD,aA.cells,aA.a,aA.b,aA.aq,aA.agg,aA.col,aA.ao,only,eY,qa,clean,Mt,uR,zT];rw[Bool.eq_iff_iff];simp[qc,ZD,hcn,UC]
   try(constructor<;>intro h<;>simp_all)
 ·exfalso;simp only[aA.au,beq_eq_false_iff_ne,ne_eq]at*;simp[cU,h1,h2,h3,h4,h5,h6,h7]at h
theorem HG(hp:cF pr)(p:aA)(gu:p.small):dK pr 64 [p.enc] (.bool (shaped p)):=by
 have V3:=Tw p
 have Dd:=fun q=>uS hp (.mk p.au p.n p.aD p.cells p.a p.b p.aq p.agg p.col []) q (by
  obtain⟨au,n,aD,cells,a,b,aq,agg,c,ao⟩:=p;simp only[aA.small,aA.sz,aA.au,aA.cells,aA.aq,aA.wu]at*;simp;omega)
 have sg:=EL hp;obtain⟨au,n,aD,cells,a,b,aq,agg,c,ao⟩:=p;have kD:=eH ao;refine cX hp rfl rfl ?_;rcases fU au with rfl|rfl|rfl|rfl|rfl|rfl|rfl|⟨h1,h2,h3,h4,h5,h6,h7⟩
 ·have hk:=HA hp;have ho:=HD hp n aD cells a b aq agg c ao;have hs:=Dd (only (.mk 1 n aD cells a b aq agg c ao));rw[V3 (by simp[aA.au,cU])]at hs;conv=>whnf
  refine⟨_,sg _,?_⟩;conv=>whnf
  refine⟨_,hk _,?_⟩;conv=>whnf
  refine ae (fun g1=>?_) (fun g1=>?_)
  ·rw[kD]at g1
   have vF:(cU 1==(ao.length:Int))=false:=by
    have:((ao.length:Int)==0)=false:=by rw[bne,Bool.not_eq_true']at g1;exact g1
    rw[BEq.comm];exact this
   conv=>whnf
   exact bw (by simp only[shaped,aA.au,aA.ao];rw[vF];rfl)
  ·rw[kD]at g1
   have vF:(cU 1==(ao.length:Int))=true:=by
    have:((ao.length:Int)==0)=true:=by rw[bne,Bool.not_eq_false']at g1;exact g1
    rw[BEq.comm];exact this
   conv=>whnf
   refine⟨_,ho _,?_⟩;conv=>whnf
   refine⟨_,hs.mX rfl rfl rfl _,?_⟩
   iterate 2
    all_goals(try(conv=>whnf))
    all_goals(first|(refine ae (fun hb=>?_) (fun hb=>?_))|skip)
   all_goals exact bw (by simp only[shaped,aA.au,aA.ao];rw[vF,hb];rfl)
 ·have hk:=HB hp;have ho:=HE hp n aD cells a b aq agg c ao;have hs:=Dd (only (.mk 2 n aD cells a b aq agg c ao));rw[V3 (by simp[aA.au,cU])]at hs;conv=>whnf
  refine⟨_,sg _,?_⟩;conv=>whnf
  refine⟨_,hk _,?_⟩;conv=>whnf
  refine ae (fun g1=>?_) (fun g1=>?_)
  ·rw[kD]at g1
   have vF:(cU 2==(ao.length:Int))=false:=by
    have:((ao.length:Int)==1)=false:=by rw[bne,Bool.not_eq_true']at g1;exact g1
    rw[BEq.comm];exact this
   conv=>whnf
   exact bw (by simp only[shaped,aA.au,aA.ao];rw[vF];rfl)
  ·rw[kD]at g1
   have vF:(cU 2==(ao.length:Int))=true:=by
    have:((ao.length:Int)==1)=true:=by rw[bne,Bool.not_eq_false']at g1;exact g1
    rw[BEq.comm];exact this
   conv=>whnf
   refine⟨_,ho _,?_⟩;conv=>whnf
   refine⟨_,hs.mX rfl rfl rfl _,?_⟩
   iterate 2
    all_goals(try(conv=>whnf))
    all_goals(first|(refine ae (fun hb=>?_) (fun hb=>?_))|skip)
   all_goals exact bw (by simp only[shaped,aA.au,aA.ao];rw[vF,hb];rfl)
 ·have hk:=NS hp;have ho:=NT hp n aD cells a b aq agg c ao;have hs:=Dd (only (.mk 3 n aD cells a b aq agg c ao));rw[V3 (by simp[aA.au,cU])]at hs;conv=>whnf
  refine⟨_,sg _,?_⟩;conv=>whnf
  refine⟨_,hk _,?_⟩;conv=>whnf
  refine ae (fun g1=>?_) (fun g1=>?_)
  ·rw[kD]at g1
   have vF:(cU 3==(ao.length:Int))=false:=by
    have:((ao.length:Int)==1)=false:=by rw[bne,Bool.not_eq_true']at g1;exact g1
    rw[BEq.comm];exact this
   conv=>whnf
   exact bw (by simp only[shaped,aA.au,aA.ao];rw[vF];rfl)
  ·rw[kD]at g1
   have vF:(cU 3==(ao.length:Int))=true:=by
    have:((ao.length:Int)==1)=true:=by rw[bne,Bool.not_eq_false']at g1;exact g1
    rw[BEq.comm];exact this
   conv=>whnf
   refine⟨_,ho _,?_⟩;conv=>whnf
   refine⟨_,hs.mX rfl rfl rfl _,?_⟩
   iterate 2
    all_goals(try(conv=>whnf))
    all_goals(first|(refine ae (fun hb=>?_) (fun hb=>?_))|skip)
   all_goals exact bw (by simp only[shaped,aA.au,aA.ao];rw[vF,hb];rfl)
 ·have hk:=Ks hp;have ho:=Kv hp n aD cells a b aq agg c ao;have hs:=Dd (only (.mk 4 n aD cells a b aq agg c ao));rw[V3 (by simp[aA.au,cU])]at hs;conv=>whnf
  refine⟨_,sg _,?_⟩;conv=>whnf
  refine⟨_,hk _,?_⟩;conv=>whnf
  refine ae (fun g1=>?_) (fun g1=>?_)
  ·rw[kD]at g1
   have vF:(cU 4==(ao.length:Int))=false:=by
    have:((ao.length:Int)==2)=false:=by rw[bne,Bool.not_eq_true']at g1;exact g1
    rw[BEq.comm];exact this
   conv=>whnf
   exact bw (by simp only[shaped,aA.au,aA.ao];rw[vF];rfl)
  ·rw[kD]at g1
   have vF:(cU 4==(ao.length:Int))=true:=by
    have:((ao.length:Int)==2)=true:=by rw[bne,Bool.not_eq_false']at g1;exact g1
    rw[BEq.comm];exact this
   conv=>whnf
   refine⟨_,ho _,?_⟩;conv=>whnf
   refine⟨_,hs.mX rfl rfl rfl _,?_⟩
   iterate 2
    all_goals(try(conv=>whnf))
    all_goals(first|(refine ae (fun hb=>?_) (fun hb=>?_))|skip)
   all_goals exact bw (by simp only[shaped,aA.au,aA.ao];rw[vF,hb];rfl)
 ·have hk:=Kt hp;have ho:=Kw hp n aD cells a b aq agg c ao;have hs:=Dd (only (.mk 5 n aD cells a b aq agg c ao));rw[V3 (by simp[aA.au,cU])]at hs;conv=>whnf
  refine⟨_,sg _,?_⟩;conv=>whnf
  refine⟨_,hk _,?_⟩;conv=>whnf
  refine ae (fun g1=>?_) (fun g1=>?_)
  ·rw[kD]at g1
   have vF:(cU 5==(ao.length:Int))=false:=by
    have:((ao.length:Int)==2)=false:=by rw[bne,Bool.not_eq_true']at g1;exact g1
    rw[BEq.comm];exact this
   conv=>whnf
   exact bw (by simp only[shaped,aA.au,aA.ao];rw[vF];rfl)
  ·rw[kD]at g1
   have vF:(cU 5==(ao.length:Int))=true:=by
    have:((ao.length:Int)==2)=true:=by rw[bne,Bool.not_eq_false']at g1;exact g1
    rw[BEq.comm];exact this
   conv=>whnf
   refine⟨_,ho _,?_⟩;conv=>whnf
   refine⟨_,hs.mX rfl rfl rfl _,?_⟩
   iterate 2
    all_goals(try(conv=>whnf))
    all_goals(first|(refine ae (fun hb=>?_) (fun hb=>?_))|skip)
   all_goals exact bw (by simp only[shaped,aA.au,aA.ao];rw[vF,hb];rfl)
 ·have hk:=Ku hp;have ho:=Kx hp n aD cells a b aq agg c ao;have hs:=Dd (only (.mk 6 n aD cells a b aq agg c ao));rw[V3 (by simp[aA.au,cU])]at hs;conv=>whnf
  refine⟨_,sg _,?_⟩;conv=>whnf
  refine⟨_,hk _,?_⟩;conv=>whnf
  refine ae (fun g1=>?_) (fun g1=>?_)
  ·rw[kD]at g1
   have vF:(cU 6==(ao.length:Int))=false:=by
    have:((ao.length:Int)==1)=false:=by rw[bne,Bool.not_eq_true']at g1;exact g1
    rw[BEq.comm];exact this
   conv=>whnf
   exact bw (by simp only[shaped,aA.au,aA.ao];rw[vF];rfl)
  ·rw[kD]at g1
   have vF:(cU 6==(ao.length:Int))=true:=by
    have:((ao.length:Int)==1)=true:=by rw[bne,Bool.not_eq_false']at g1;exact g1
    rw[BEq.comm];exact this
   conv=>whnf
   refine⟨_,ho _,?_⟩;conv=>whnf
   refine⟨_,hs.mX rfl rfl rfl _,?_⟩
   iterate 2
    all_goals(try(conv=>whnf))
    all_goals(first|(refine ae (fun hb=>?_) (fun hb=>?_))|skip)
   all_goals exact bw (by simp only[shaped,aA.au,aA.ao];rw[vF,hb];rfl)
 ·have hk:=HC hp;have ho:=HF hp n aD cells a b aq agg c ao;have hs:=Dd (only (.mk 7 n aD cells a b aq agg c ao));rw[V3 (by simp[aA.au,cU])]at hs;conv=>whnf
  refine⟨_,sg _,?_⟩;conv=>whnf
  refine⟨_,hk _,?_⟩;conv=>whnf
  refine ae (fun g1=>?_) (fun g1=>?_)
  ·rw[kD]at g1
   have vF:(cU 7==(ao.length:Int))=false:=by
    have:((ao.length:Int)==1)=false:=by rw[bne,Bool.not_eq_true']at g1;exact g1
    rw[BEq.comm];exact this
   conv=>whnf
   exact bw (by simp only[shaped,aA.au,aA.ao];rw[vF];rfl)
  ·rw[kD]at g1
   have vF:(cU 7==(ao.length:Int))=true:=by
    have:((ao.length:Int)==1)=true:=by rw[bne,Bool.not_eq_false']at g1;exact g1
    rw[BEq.comm];exact this
   conv=>whnf
   refine⟨_,ho _,?_⟩;conv=>whnf
   refine⟨_,hs.mX rfl rfl rfl _,?_⟩
   iterate 2
    all_goals(try(conv=>whnf))
    all_goals(first|(refine ae (fun hb=>?_) (fun hb=>?_))|skip)
   all_goals exact bw (by simp only[shaped,aA.au,aA.ao];rw[vF,hb];rfl)
 ·conv=>whnf
  refine⟨_,sg _,?_⟩
  iterate 9
   all_goals(try(conv=>whnf))
   all_goals(first|(refine bm h1 ?_)|(refine bm h2 ?_)|(refine bm h3 ?_)|(refine bm h4 ?_)|(refine bm h5 ?_)|(refine bm h6 ?_)|(refine bm h7 ?_)|(refine ae (fun hb=>?_) (fun hb=>?_))|skip)
  all_goals exact bw (by
   simp only[beq_eq_false_iff_ne,ne_eq]at*;simp only[shaped,aA.au,aA.ao,cU];simp[h1,h2,h3,h4,h5,h6,h7]
   try(intro hh;omega))
end Go.Proofs.YtfepbikckfehlaaGreat
set_option maxHeartbeats 4000000
namespace Go.Proofs.YtfepbikckfehlaaGreat
open Go Go.Am
variable{pr:bW}(hp:cF pr)
set_option maxRecDepth 100000
mutual
def cr(kf:Int->Int)(ws:List Int):aA->Int
 | .mk au n aD cells a b aq agg c ao=>
  if shaped (.mk au n aD cells a b aq agg c ao)then
   if au=1 then(if ws.isEmpty then-1 else kf (bU (.mk au n aD cells a b aq agg c ao) ws))
   else match ic kf ws ao with
    |none=>-1
    |some l=>if l.isEmpty then-1 else kf (bU (.mk au n aD cells a b aq agg c ao) l)
  else-1
def ic(kf:Int->Int)(ws:List Int):List aA->Option (List Int)
 | []=>some []
 |p::ps=>if cr kf ws p== -1 then none else(ic kf ws ps).map (cr kf ws p:: ·)
end
def mz(w:Int):Int:=if w != -1 then 6 else-1
theorem HH(hp:cF pr)(w:Int):dK pr 130 [i64 w] (i64 (mz w)):=by
 have h:=fun ok=>na hp ok 6;refine cX hp rfl rfl ?_
 iterate 4
  all_goals(try(conv=>whnf))
  all_goals(first|(refine ae (fun hb=>?_) (fun hb=>?_))|(refine⟨_,h _ _,?_⟩)|skip)
 all_goals exact cu (by simp only[mz,hb];first|done|rfl)
def kfV:af:=.func (.func 130) [] []
theorem Qx(hp:cF pr)(ws:List Int)(xq:ws.length<=1048576): ∀(N:Nat)(p:aA),SizeOf.sizeOf p<=N->p.small->dK pr 30 [p.enc,.sl (ws.map i64),kfV] (i64 (cr mz ws p)):=by
 intro N
 induction N with
 |zero=>intro p h;exfalso;cases p;simp at h
 |succ N ih=>
 intro p hs gu;have tN:=HG hp p gu;have sg:=EL hp;have yE:=HH hp;obtain⟨au,n,aD,cells,a,b,aq,agg,c,ao⟩:=p;obtain⟨sc,lf,gS,gE⟩:=eE gu;have eZ: ∀q∈ao,dK pr 30 [q.enc,.sl (ws.map i64),kfV] (i64 (cr mz ws q)):=fun q hq=>ih q (by have:=abo hq;simp at hs;omega) (gE q hq);clear ih hs;refine cX hp rfl rfl ?_;conv=>whnf
 refine⟨_,tN _,?_⟩;conv=>whnf
 refine ae (fun g0=>?_) (fun g0=>?_)
 ·have hlen:cU au=ao.length:=by simp only[shaped,aA.au,aA.ao,xz,beq_iff_eq]at g0;exact g0.1
  rcases fU au with rfl|rfl|rfl|rfl|rfl|rfl|rfl|⟨h1,h2,h3,h4,h5,h6,h7⟩
  ·have hw:=fun h0=>yX hp n aD cells a b aq agg c ao ws h0 xq;have hP:cr mz ws (.mk 1 n aD cells a b aq agg c ao)=if ws.isEmpty then-1 else mz (bU (.mk 1 n aD cells a b aq agg c ao) ws):=by rw[cr,if_pos g0];rfl
   rw[hP];conv=>whnf
   refine ae (fun g1=>?_) (fun g1=>?_)
   ·conv=>whnf
    have:ws.isEmpty=true:=by simp at g1;simp[g1]
    exact cu (by rw[this];rfl)
   ·have mD:ws.isEmpty=false:=by simp at g1;simp[g1]
    conv=>whnf
    refine⟨_,sg _,?_⟩;conv=>whnf
    refine⟨_,hw (by simpa using mD) _,?_⟩;conv=>whnf
    refine⟨_,yE _ _,?_⟩;conv=>whnf
    exact cu (by rw[mD];rfl)
  ·match ao,hlen,eZ with
   | [q],_,eZ=>
    have hq:=eZ q (by simp);have hw:=fun w=>yY hp n aD cells a b aq agg c [q] w []
    have hP:cr mz ws (.mk 2 n aD cells a b aq agg c [q])=if cr mz ws q== -1 then-1 else mz (bU (.mk 2 n aD cells a b aq agg c [q]) [cr mz ws q]):=by
     rw[cr,if_pos g0];simp only[ic];cases(cr mz ws q== -1)<;>rfl
    rw[hP];clear eZ hP;generalize cr mz ws q=wq at*;obtain⟨cG,n',dq,bR,a',b',cH,dE,c',cE⟩:=q;conv=>whnf
    refine dh ?_;conv=>whnf
    refine⟨_,rfl,by omega,rfl,?_⟩;conv=>whnf
    refine⟨_,hq _,?_⟩;conv=>whnf
    refine ae (fun g1=>?_) (fun g1=>?_)
    ·conv=>whnf
     exact cu (by rw[g1];rfl)
    ·conv=>whnf
     refine⟨trivial,?_⟩;conv=>whnf
     refine⟨rfl,?_⟩;conv=>whnf
     refine⟨by show 1<=4294967296;omega,?_⟩;conv=>whnf
     refine dh ?_;conv=>whnf
     refine⟨_,sg _,?_⟩;conv=>whnf
     refine⟨_,(hw wq).frozen rfl rfl rfl rfl,?_⟩;conv=>whnf
     refine⟨_,yE _ _,?_⟩;conv=>whnf
     exact cu (by rw[g1];rfl)
   | [],hk,_=>simp[cU]at hk
   |_::_::_,hk,_=>simp[cU]at hk;omega
  ·match ao,hlen,eZ with
   | [q],_,eZ=>
    have hq:=eZ q (by simp);have hw:=fun w=>Dx hp n aD cells a b aq agg c [q] w [] sc
    have hP:cr mz ws (.mk 3 n aD cells a b aq agg c [q])=if cr mz ws q== -1 then-1 else mz (bU (.mk 3 n aD cells a b aq agg c [q]) [cr mz ws q]):=by
     rw[cr,if_pos g0];simp only[ic];cases(cr mz ws q== -1)<;>rfl
    rw[hP];clear eZ hP;generalize cr mz ws q=wq at*;obtain⟨cG,n',dq,bR,a',b',cH,dE,c',cE⟩:=q;conv=>whnf
    refine dh ?_;conv=>whnf
    refine⟨_,rfl,by omega,rfl,?_⟩;conv=>whnf
    refine⟨_,hq _,?_⟩;conv=>whnf
    refine ae (fun g1=>?_) (fun g1=>?_)
    ·conv=>whnf
     exact cu (by rw[g1];rfl)
    ·conv=>whnf
     refine⟨trivial,?_⟩;conv=>whnf
     refine⟨rfl,?_⟩;conv=>whnf
     refine⟨by show 1<=4294967296;omega,?_⟩;conv=>whnf
     refine dh ?_;conv=>whnf
     refine⟨_,sg _,?_⟩;conv=>whnf
     refine⟨_,(hw wq).frozen rfl rfl rfl rfl,?_⟩;conv=>whnf
     refine⟨_,yE _ _,?_⟩;conv=>whnf
     exact cu (by rw[g1];rfl)
   | [],hk,_=>simp[cU]at hk
   |_::_::_,hk,_=>simp[cU]at hk;omega
  ·match ao,hlen,eZ with
   | [q,q2],_,eZ=>
    have hq:=eZ q (by simp);have qD:=eZ q2 (by simp);have hw:=fun w v=>A4 hp n aD cells a b aq agg c [q,q2] w v []
    have hP:cr mz ws (.mk 4 n aD cells a b aq agg c [q,q2])=if cr mz ws q== -1 then-1 else if cr mz ws q2== -1 then-1 else mz (bU (.mk 4 n aD cells a b aq agg c [q,q2]) [cr mz ws q,cr mz ws q2]):=by
     rw[cr,if_pos g0];simp only[ic];cases(cr mz ws q== -1)<;>cases(cr mz ws q2== -1)<;>rfl
    rw[hP];clear eZ hP;generalize cr mz ws q=wq at*;generalize cr mz ws q2=V4 at*;obtain⟨cG,n',dq,bR,a',b',cH,dE,c',cE⟩:=q;obtain⟨oJ,n2,oL,lg,a2,b2,oM,uT,c2,oN⟩:=q2;conv=>whnf
    refine dh ?_;conv=>whnf
    refine⟨_,rfl,by omega,rfl,?_⟩;conv=>whnf
    refine⟨_,hq _,?_⟩;conv=>whnf
    refine ae (fun g1=>?_) (fun g1=>?_)
    ·conv=>whnf
     exact cu (by rw[g1];rfl)
    ·conv=>whnf
     refine⟨trivial,?_⟩;conv=>whnf
     refine⟨rfl,?_⟩;conv=>whnf
     refine⟨by show 1<=4294967296;omega,?_⟩;conv=>whnf
     refine dh ?_;conv=>whnf
     refine⟨_,rfl,by decide,rfl,?_⟩;conv=>whnf
     refine⟨_,qD _,?_⟩;conv=>whnf
     refine ae (fun g2=>?_) (fun g2=>?_)
     ·conv=>whnf
      exact cu (by rw[g1,g2];rfl)
     ·conv=>whnf
      refine⟨trivial,?_⟩;conv=>whnf
      refine⟨rfl,?_⟩;conv=>whnf
      refine⟨rfl,rfl,by show 1<=1;omega,?_⟩;conv=>whnf
      refine⟨by show 1+1<=4294967296;omega,?_⟩;conv=>whnf
      refine dh ?_;conv=>whnf
      refine⟨_,sg _,?_⟩;conv=>whnf
      refine⟨_,(hw wq V4).frozen rfl rfl rfl rfl,?_⟩;conv=>whnf
      refine⟨_,yE _ _,?_⟩;conv=>whnf
      exact cu (by rw[g1,g2];rfl)
   | [],hk,_=>simp[cU]at hk
   | [_],hk,_=>simp[cU]at hk
   |_::_::_::_,hk,_=>simp[cU]at hk;omega
  ·match ao,hlen,eZ with
   | [q,q2],_,eZ=>
    have hq:=eZ q (by simp);have qD:=eZ q2 (by simp);have hw:=fun w v=>A5 hp n aD cells a b aq agg c [q,q2] w v []
    have hP:cr mz ws (.mk 5 n aD cells a b aq agg c [q,q2])=if cr mz ws q== -1 then-1 else if cr mz ws q2== -1 then-1 else mz (bU (.mk 5 n aD cells a b aq agg c [q,q2]) [cr mz ws q,cr mz ws q2]):=by
     rw[cr,if_pos g0];simp only[ic];cases(cr mz ws q== -1)<;>cases(cr mz ws q2== -1)<;>rfl
    rw[hP];clear eZ hP;generalize cr mz ws q=wq at*;generalize cr mz ws q2=V4 at*;obtain⟨cG,n',dq,bR,a',b',cH,dE,c',cE⟩:=q;obtain⟨oJ,n2,oL,lg,a2,b2,oM,uT,c2,oN⟩:=q2;conv=>whnf
    refine dh ?_;conv=>whnf
    refine⟨_,rfl,by omega,rfl,?_⟩;conv=>whnf
    refine⟨_,hq _,?_⟩;conv=>whnf
    refine ae (fun g1=>?_) (fun g1=>?_)
    ·conv=>whnf
     exact cu (by rw[g1];rfl)
    ·conv=>whnf
     refine⟨trivial,?_⟩;conv=>whnf
     refine⟨rfl,?_⟩;conv=>whnf
     refine⟨by show 1<=4294967296;omega,?_⟩;conv=>whnf
     refine dh ?_;conv=>whnf
     refine⟨_,rfl,by decide,rfl,?_⟩;conv=>whnf
     refine⟨_,qD _,?_⟩;conv=>whnf
     refine ae (fun g2=>?_) (fun g2=>?_)
     ·conv=>whnf
      exact cu (by rw[g1,g2];rfl)
     ·conv=>whnf
      refine⟨trivial,?_⟩;conv=>whnf
      refine⟨rfl,?_⟩;conv=>whnf
      refine⟨rfl,rfl,by show 1<=1;omega,?_⟩;conv=>whnf
      refine⟨by show 1+1<=4294967296;omega,?_⟩;conv=>whnf
      refine dh ?_;conv=>whnf
      refine⟨_,sg _,?_⟩;conv=>whnf
      refine⟨_,(hw wq V4).frozen rfl rfl rfl rfl,?_⟩;conv=>whnf
      refine⟨_,yE _ _,?_⟩;conv=>whnf
      exact cu (by rw[g1,g2];rfl)
   | [],hk,_=>simp[cU]at hk
   | [_],hk,_=>simp[cU]at hk
   |_::_::_::_,hk,_=>simp[cU]at hk;omega
  ·match ao,hlen,eZ with
   | [q],_,eZ=>
    have hq:=eZ q (by simp);have hw:=fun w=>A6 hp n aD cells a b aq agg c [q] w []
    have hP:cr mz ws (.mk 6 n aD cells a b aq agg c [q])=if cr mz ws q== -1 then-1 else mz (bU (.mk 6 n aD cells a b aq agg c [q]) [cr mz ws q]):=by
     rw[cr,if_pos g0];simp only[ic];cases(cr mz ws q== -1)<;>rfl
    rw[hP];clear eZ hP;generalize cr mz ws q=wq at*;obtain⟨cG,n',dq,bR,a',b',cH,dE,c',cE⟩:=q;conv=>whnf
    refine dh ?_;conv=>whnf
    refine⟨_,rfl,by omega,rfl,?_⟩;conv=>whnf
    refine⟨_,hq _,?_⟩;conv=>whnf
    refine ae (fun g1=>?_) (fun g1=>?_)
    ·conv=>whnf
     exact cu (by rw[g1];rfl)
    ·conv=>whnf
     refine⟨trivial,?_⟩;conv=>whnf
     refine⟨rfl,?_⟩;conv=>whnf
     refine⟨by show 1<=4294967296;omega,?_⟩;conv=>whnf
     refine dh ?_;conv=>whnf
     refine⟨_,sg _,?_⟩;conv=>whnf
     refine⟨_,(hw wq).frozen rfl rfl rfl rfl,?_⟩;conv=>whnf
     refine⟨_,yE _ _,?_⟩;conv=>whnf
     exact cu (by rw[g1];rfl)
   | [],hk,_=>simp[cU]at hk
   |_::_::_,hk,_=>simp[cU]at hk;omega
  ·match ao,hlen,eZ with
   | [q],_,eZ=>
    have hq:=eZ q (by simp);have hw:=fun w=>yZ hp n aD cells a b aq agg c [q] w [] lf
    have hP:cr mz ws (.mk 7 n aD cells a b aq agg c [q])=if cr mz ws q== -1 then-1 else mz (bU (.mk 7 n aD cells a b aq agg c [q]) [cr mz ws q]):=by
     rw[cr,if_pos g0];simp only[ic];cases(cr mz ws q== -1)<;>rfl
    rw[hP];clear eZ hP;generalize cr mz ws q=wq at*;obtain⟨cG,n',dq,bR,a',b',cH,dE,c',cE⟩:=q;conv=>whnf
    refine dh ?_;conv=>whnf
    refine⟨_,rfl,by omega,rfl,?_⟩;conv=>whnf
    refine⟨_,hq _,?_⟩;conv=>whnf
    refine ae (fun g1=>?_) (fun g1=>?_)
    ·conv=>whnf
     exact cu (by rw[g1];rfl)
    ·conv=>whnf
     refine⟨trivial,?_⟩;conv=>whnf
     refine⟨rfl,?_⟩;conv=>whnf
     refine⟨by show 1<=4294967296;omega,?_⟩;conv=>whnf
     refine dh ?_;conv=>whnf
     refine⟨_,sg _,?_⟩;conv=>whnf
     refine⟨_,(hw wq).frozen rfl rfl rfl rfl,?_⟩;conv=>whnf
     refine⟨_,yE _ _,?_⟩;conv=>whnf
     exact cu (by rw[g1];rfl)
   | [],hk,_=>simp[cU]at hk
   |_::_::_,hk,_=>simp[cU]at hk;omega
  ·exfalso;simp only[beq_eq_false_iff_ne,ne_eq]at*;simp[cU,h1,h2,h3,h4,h5,h6,h7]at hlen
   try omega
 ·conv=>whnf
  exact cu (by rw[cr,if_neg (by rw[g0];simp)])
end Go.Proofs.YtfepbikckfehlaaGreat

/- How wide plans are. -/
import Derived.Test.YtfepbikckfehlaaGreatGH28
set_option linter.unusedVariables false
set_option linter.unusedSimpArgs false
set_option maxHeartbeats 4000000
namespace Go.Proofs.YtfepbikckfehlaaGreat
open Go Go.Am
variable{pr:bL}(hp:bV pr)
set_option maxRecDepth 100000
theorem Ad(hp:bV pr)(n:Int)(aA:Test)(cells:List Cell)(a b:Int)(ao:List Int)(agg c:Int)(al:List ax)(w v:Int)(ws:List Int):
  dm pr 210 [.agg [],(ax.mk 4 n aA cells a b ao agg c al).enc,.sl ((w::v::ws).map i64)] (i64 (bI (ax.mk 4 n aA cells a b ao agg c al) (w::v::ws))):=by
   have h1:=mL hp a w;have h2:=mL hp b v;have Ci:=fun ok=>lN hp ok (IntKind.i64.wrap (w+v));have wH:bI (ax.mk 4 n aA cells a b ao agg c al) (w::v::ws)=if col a w&&col b v then IntKind.i64.wrap (w+v)else-1:=rfl
   rw[wH];refine bY hp rfl rfl ?_
   iterate 10
    all_goals(try(conv=>whnf))
    all_goals(first|(refine⟨i64 w,rfl,by omega,rfl,?_⟩)|(refine⟨i64 v,rfl,by omega,rfl,?_⟩)|(refine ae (fun hb=>?_) (fun hb=>?_))|(refine⟨_,h1 _,?_⟩)|(refine⟨_,h2 _,?_⟩)|(refine⟨_,Ci _ _,?_⟩)|skip)
   all_goals exact bR (by clear h1 h2 Ci wH;simp_all)
theorem Ae(hp:bV pr)(n:Int)(aA:Test)(cells:List Cell)(a b:Int)(ao:List Int)(agg c:Int)(al:List ax)(w v:Int)(ws:List Int):
  dm pr 216 [.agg [],(ax.mk 5 n aA cells a b ao agg c al).enc,.sl ((w::v::ws).map i64)] (i64 (bI (ax.mk 5 n aA cells a b ao agg c al) (w::v::ws))):=by
   have Ci:=fun ok=>lN hp ok w;have wH:bI (ax.mk 5 n aA cells a b ao agg c al) (w::v::ws)=if w==v then w else-1:=rfl
   rw[wH];refine bY hp rfl rfl ?_
   iterate 10
    all_goals(try(conv=>whnf))
    all_goals(first|(refine⟨i64 w,rfl,by omega,rfl,?_⟩)|(refine⟨i64 v,rfl,by omega,rfl,?_⟩)|(refine ae (fun hb=>?_) (fun hb=>?_))|(refine⟨_,Ci _ _,?_⟩)|skip)
   all_goals exact bR (by clear Ci wH;simp_all)
theorem Af(hp:bV pr)(n:Int)(aA:Test)(cells:List Cell)(a b:Int)(ao:List Int)(agg c:Int)(al:List ax)(w:Int)(ws:List Int):
  dm pr 221 [.agg [],(ax.mk 6 n aA cells a b ao agg c al).enc,.sl ((w::ws).map i64)] (i64 (bI (ax.mk 6 n aA cells a b ao agg c al) (w::ws))):=by
   refine bY hp rfl rfl ?_
   iterate 3
    all_goals(try(conv=>whnf))
    all_goals(first|(refine⟨i64 w,rfl,by omega,rfl,?_⟩)|(refine ae (fun hb=>?_) (fun hb=>?_))|skip)
   exact bR rfl
theorem xM(hp:bV pr)(n:Int)(aA:Test)(cells:List Cell)(a b:Int)(ao:List Int)(agg c:Int)(al:List ax)(w:Int)(ws:List Int)(hl:ao.length<=1048576):
  dm pr 226 [.agg [],(ax.mk 7 n aA cells a b ao agg c al).enc,.sl ((w::ws).map i64)] (i64 (bI (ax.mk 7 n aA cells a b ao agg c al) (w::ws))):=by
   have h1:=L7 hp ao w hl;have h2:=mL hp c w;have CI:IntKind.i64.wrap (((ao.map i64).length:Int)+1)=(ao.length:Int)+1:=by rw[aY];simp;omega
   have Ci:=fun ok=>lN hp ok (IntKind.i64.wrap (((ao.map i64).length:Int)+1));have wH:bI (ax.mk 7 n aA cells a b ao agg c al) (w::ws)=if decide (0<=agg)&&(decide (agg<=3)&&(dY ao w&&col c w))then(ao.length:Int)+1 else-1:=rfl
   rw[wH];refine bY hp rfl rfl ?_
   iterate 14
    all_goals(try(conv=>whnf))
    all_goals(first|(refine⟨i64 w,rfl,by omega,rfl,?_⟩)|(refine ae (fun hb=>?_) (fun hb=>?_))|(refine⟨_,h1 _,?_⟩)|(refine⟨_,h2 _,?_⟩)|(refine⟨_,Ci _ _,?_⟩)|skip)
   all_goals exact bR (by rw[CI];clear h1 h2 Ci wH CI;simp_all;try omega)
def shaped(p:ax):Bool:=(bX p.aw==(p.al.length:Int))&&clean p
theorem RW(p:ax)(h:bX p.aw≠ -1):eb (.mk p.aw p.n p.aA p.cells p.a p.b p.ao p.agg p.col []) (only p)=clean p:=by
 obtain⟨aw,n,⟨tk,tn,⟨a1,a2,a3,a4⟩,⟨b1,b2,b3,b4⟩⟩,cells,a,b,ao,agg,c,al⟩:=p
 have ov: ∀l:List Cell,cG jm l l=true:=fun l=>by
  induction l with
  |nil=>rfl
  |cons x l ih=>simp only[cG,ih];simp[jm]
 have XP: ∀l:List Int,cG (fun x y:Int=>x==y) l l=true:=fun l=>by
  induction l with
  |nil=>rfl
  |cons x l ih=>simp only[cG,ih];simp
 have hcn: ∀l:List Cell,cG jm l []=l.isEmpty:=fun l=>by cases l<;>rfl
 have SJ: ∀l:List Int,cG (fun x y:Int=>x==y) l []=l.isEmpty:=fun l=>by cases l<;>rfl
 rcases eR aw with rfl|rfl|rfl|rfl|rfl|rfl|rfl|⟨h1,h2,h3,h4,h5,h6,h7⟩
 iterate 7
  ·simp only[ax.aw,ax.n,ax.aA,ax.cells,ax.a,ax.b,ax.ao,ax.agg,ax.col,ax.al,only,eb,oi,clean,KW,tB,zT];rw[Bool.eq_iff_iff];simp[ov,XP,hcn,SJ]
   try(constructor<;>intro h<;>simp_all)
 ·exfalso;simp only[ax.aw,beq_eq_false_iff_ne,ne_eq]at*;simp[bX,h1,h2,h3,h4,h5,h6,h7]at h
theorem GH(hp:bV pr)(p:ax)(fm:p.small):dm pr 64 [p.enc] (.bool (shaped p)):=by
 have UD:=RW p
 have Er:=fun q=>zG hp (.mk p.aw p.n p.aA p.cells p.a p.b p.ao p.agg p.col []) q (by
  obtain⟨aw,n,aA,cells,a,b,ao,agg,c,al⟩:=p;simp only[ax.small,ax.sz,ax.aw,ax.cells,ax.ao,ax.uD]at*;simp;omega)
 have qV:=DJ hp;obtain⟨aw,n,aA,cells,a,b,ao,agg,c,al⟩:=p;have ji:=dM al;refine bY hp rfl rfl ?_;rcases eR aw with rfl|rfl|rfl|rfl|rfl|rfl|rfl|⟨h1,h2,h3,h4,h5,h6,h7⟩
 ·have hk:=Gz hp;have ho:=GC hp n aA cells a b ao agg c al;have hs:=Er (only (.mk 1 n aA cells a b ao agg c al));rw[UD (by simp[ax.aw,bX])]at hs;conv=>whnf
  refine⟨_,qV _,?_⟩;conv=>whnf
  refine⟨_,hk _,?_⟩;conv=>whnf
  refine ae (fun g1=>?_) (fun g1=>?_)
  ·rw[ji]at g1
   have tX:(bX 1==(al.length:Int))=false:=by
    have:((al.length:Int)==0)=false:=by rw[bne,Bool.not_eq_true']at g1;exact g1
    rw[BEq.comm];exact this
   conv=>whnf
   exact bo (by simp only[shaped,ax.aw,ax.al];rw[tX];rfl)
  ·rw[ji]at g1
   have tX:(bX 1==(al.length:Int))=true:=by
    have:((al.length:Int)==0)=true:=by rw[bne,Bool.not_eq_false']at g1;exact g1
    rw[BEq.comm];exact this
   conv=>whnf
   refine⟨_,ho _,?_⟩;conv=>whnf
   refine⟨_,hs.lE rfl rfl rfl _,?_⟩
   iterate 2
    all_goals(try(conv=>whnf))
    all_goals(first|(refine ae (fun hb=>?_) (fun hb=>?_))|skip)
   all_goals exact bo (by simp only[shaped,ax.aw,ax.al];rw[tX,hb];rfl)
 ·have hk:=GA hp;have ho:=GD hp n aA cells a b ao agg c al;have hs:=Er (only (.mk 2 n aA cells a b ao agg c al));rw[UD (by simp[ax.aw,bX])]at hs;conv=>whnf
  refine⟨_,qV _,?_⟩;conv=>whnf
  refine⟨_,hk _,?_⟩;conv=>whnf
  refine ae (fun g1=>?_) (fun g1=>?_)
  ·rw[ji]at g1
   have tX:(bX 2==(al.length:Int))=false:=by
    have:((al.length:Int)==1)=false:=by rw[bne,Bool.not_eq_true']at g1;exact g1
    rw[BEq.comm];exact this
   conv=>whnf
   exact bo (by simp only[shaped,ax.aw,ax.al];rw[tX];rfl)
  ·rw[ji]at g1
   have tX:(bX 2==(al.length:Int))=true:=by
    have:((al.length:Int)==1)=true:=by rw[bne,Bool.not_eq_false']at g1;exact g1
    rw[BEq.comm];exact this
   conv=>whnf
   refine⟨_,ho _,?_⟩;conv=>whnf
   refine⟨_,hs.lE rfl rfl rfl _,?_⟩
   iterate 2
    all_goals(try(conv=>whnf))
    all_goals(first|(refine ae (fun hb=>?_) (fun hb=>?_))|skip)
   all_goals exact bo (by simp only[shaped,ax.aw,ax.al];rw[tX,hb];rfl)
 ·have hk:=MB hp;have ho:=MC hp n aA cells a b ao agg c al;have hs:=Er (only (.mk 3 n aA cells a b ao agg c al));rw[UD (by simp[ax.aw,bX])]at hs;conv=>whnf
  refine⟨_,qV _,?_⟩;conv=>whnf
  refine⟨_,hk _,?_⟩;conv=>whnf
  refine ae (fun g1=>?_) (fun g1=>?_)
  ·rw[ji]at g1
   have tX:(bX 3==(al.length:Int))=false:=by
    have:((al.length:Int)==1)=false:=by rw[bne,Bool.not_eq_true']at g1;exact g1
    rw[BEq.comm];exact this
   conv=>whnf
   exact bo (by simp only[shaped,ax.aw,ax.al];rw[tX];rfl)
  ·rw[ji]at g1
   have tX:(bX 3==(al.length:Int))=true:=by
    have:((al.length:Int)==1)=true:=by rw[bne,Bool.not_eq_false']at g1;exact g1
    rw[BEq.comm];exact this
   conv=>whnf
   refine⟨_,ho _,?_⟩;conv=>whnf
   refine⟨_,hs.lE rfl rfl rfl _,?_⟩
   iterate 2
    all_goals(try(conv=>whnf))
    all_goals(first|(refine ae (fun hb=>?_) (fun hb=>?_))|skip)
   all_goals exact bo (by simp only[shaped,ax.aw,ax.al];rw[tX,hb];rfl)
 ·have hk:=Jk hp;have ho:=Jn hp n aA cells a b ao agg c al;have hs:=Er (only (.mk 4 n aA cells a b ao agg c al));rw[UD (by simp[ax.aw,bX])]at hs;conv=>whnf
  refine⟨_,qV _,?_⟩;conv=>whnf
  refine⟨_,hk _,?_⟩;conv=>whnf
  refine ae (fun g1=>?_) (fun g1=>?_)
  ·rw[ji]at g1
   have tX:(bX 4==(al.length:Int))=false:=by
    have:((al.length:Int)==2)=false:=by rw[bne,Bool.not_eq_true']at g1;exact g1
    rw[BEq.comm];exact this
   conv=>whnf
   exact bo (by simp only[shaped,ax.aw,ax.al];rw[tX];rfl)
  ·rw[ji]at g1
   have tX:(bX 4==(al.length:Int))=true:=by
    have:((al.length:Int)==2)=true:=by rw[bne,Bool.not_eq_false']at g1;exact g1
    rw[BEq.comm];exact this
   conv=>whnf
   refine⟨_,ho _,?_⟩;conv=>whnf
   refine⟨_,hs.lE rfl rfl rfl _,?_⟩
   iterate 2
    all_goals(try(conv=>whnf))
    all_goals(first|(refine ae (fun hb=>?_) (fun hb=>?_))|skip)
   all_goals exact bo (by simp only[shaped,ax.aw,ax.al];rw[tX,hb];rfl)
 ·have hk:=Jl hp;have ho:=Jo hp n aA cells a b ao agg c al;have hs:=Er (only (.mk 5 n aA cells a b ao agg c al));rw[UD (by simp[ax.aw,bX])]at hs;conv=>whnf
  refine⟨_,qV _,?_⟩;conv=>whnf
  refine⟨_,hk _,?_⟩;conv=>whnf
  refine ae (fun g1=>?_) (fun g1=>?_)
  ·rw[ji]at g1
   have tX:(bX 5==(al.length:Int))=false:=by
    have:((al.length:Int)==2)=false:=by rw[bne,Bool.not_eq_true']at g1;exact g1
    rw[BEq.comm];exact this
   conv=>whnf
   exact bo (by simp only[shaped,ax.aw,ax.al];rw[tX];rfl)
  ·rw[ji]at g1
   have tX:(bX 5==(al.length:Int))=true:=by
    have:((al.length:Int)==2)=true:=by rw[bne,Bool.not_eq_false']at g1;exact g1
    rw[BEq.comm];exact this
   conv=>whnf
   refine⟨_,ho _,?_⟩;conv=>whnf
   refine⟨_,hs.lE rfl rfl rfl _,?_⟩
   iterate 2
    all_goals(try(conv=>whnf))
    all_goals(first|(refine ae (fun hb=>?_) (fun hb=>?_))|skip)
   all_goals exact bo (by simp only[shaped,ax.aw,ax.al];rw[tX,hb];rfl)
 ·have hk:=Jm hp;have ho:=Jp hp n aA cells a b ao agg c al;have hs:=Er (only (.mk 6 n aA cells a b ao agg c al));rw[UD (by simp[ax.aw,bX])]at hs;conv=>whnf
  refine⟨_,qV _,?_⟩;conv=>whnf
  refine⟨_,hk _,?_⟩;conv=>whnf
  refine ae (fun g1=>?_) (fun g1=>?_)
  ·rw[ji]at g1
   have tX:(bX 6==(al.length:Int))=false:=by
    have:((al.length:Int)==1)=false:=by rw[bne,Bool.not_eq_true']at g1;exact g1
    rw[BEq.comm];exact this
   conv=>whnf
   exact bo (by simp only[shaped,ax.aw,ax.al];rw[tX];rfl)
  ·rw[ji]at g1
   have tX:(bX 6==(al.length:Int))=true:=by
    have:((al.length:Int)==1)=true:=by rw[bne,Bool.not_eq_false']at g1;exact g1
    rw[BEq.comm];exact this
   conv=>whnf
   refine⟨_,ho _,?_⟩;conv=>whnf
   refine⟨_,hs.lE rfl rfl rfl _,?_⟩
   iterate 2
    all_goals(try(conv=>whnf))
    all_goals(first|(refine ae (fun hb=>?_) (fun hb=>?_))|skip)
   all_goals exact bo (by simp only[shaped,ax.aw,ax.al];rw[tX,hb];rfl)
 ·have hk:=GB hp;have ho:=GG hp n aA cells a b ao agg c al;have hs:=Er (only (.mk 7 n aA cells a b ao agg c al));rw[UD (by simp[ax.aw,bX])]at hs;conv=>whnf
  refine⟨_,qV _,?_⟩;conv=>whnf
  refine⟨_,hk _,?_⟩;conv=>whnf
  refine ae (fun g1=>?_) (fun g1=>?_)
  ·rw[ji]at g1
   have tX:(bX 7==(al.length:Int))=false:=by
    have:((al.length:Int)==1)=false:=by rw[bne,Bool.not_eq_true']at g1;exact g1
    rw[BEq.comm];exact this
   conv=>whnf
   exact bo (by simp only[shaped,ax.aw,ax.al];rw[tX];rfl)
  ·rw[ji]at g1
   have tX:(bX 7==(al.length:Int))=true:=by
    have:((al.length:Int)==1)=true:=by rw[bne,Bool.not_eq_false']at g1;exact g1
    rw[BEq.comm];exact this
   conv=>whnf
   refine⟨_,ho _,?_⟩;conv=>whnf
   refine⟨_,hs.lE rfl rfl rfl _,?_⟩
   iterate 2
    all_goals(try(conv=>whnf))
    all_goals(first|(refine ae (fun hb=>?_) (fun hb=>?_))|skip)
   all_goals exact bo (by simp only[shaped,ax.aw,ax.al];rw[tX,hb];rfl)
 ·conv=>whnf
  refine⟨_,qV _,?_⟩
  iterate 9
   all_goals(try(conv=>whnf))
   all_goals(first|(refine bf h1 ?_)|(refine bf h2 ?_)|(refine bf h3 ?_)|(refine bf h4 ?_)|(refine bf h5 ?_)|(refine bf h6 ?_)|(refine bf h7 ?_)|(refine ae (fun hb=>?_) (fun hb=>?_))|skip)
  all_goals exact bo (by
   simp only[beq_eq_false_iff_ne,ne_eq]at*;simp only[shaped,ax.aw,ax.al,bX];simp[h1,h2,h3,h4,h5,h6,h7]
   try(intro hh;omega))
end Go.Proofs.YtfepbikckfehlaaGreat
set_option maxHeartbeats 4000000
namespace Go.Proofs.YtfepbikckfehlaaGreat
open Go Go.Am
variable{pr:bL}(hp:bV pr)
set_option maxRecDepth 100000
mutual
def bQ(kf:Int->Int)(ws:List Int):ax->Int
 | .mk aw n aA cells a b ao agg c al=>
  if shaped (.mk aw n aA cells a b ao agg c al)then
   if aw=1 then(if ws.isEmpty then-1 else kf (bI (.mk aw n aA cells a b ao agg c al) ws))
   else match fY kf ws al with
    |none=>-1
    |some l=>if l.isEmpty then-1 else kf (bI (.mk aw n aA cells a b ao agg c al) l)
  else-1
def fY(kf:Int->Int)(ws:List Int):List ax->Option (List Int)
 | []=>some []
 |p::ps=>if bQ kf ws p== -1 then none else(fY kf ws ps).map (bQ kf ws p:: ·)
end
def kU(w:Int):Int:=if w != -1 then 6 else-1
theorem GI(hp:bV pr)(w:Int):dm pr 130 [i64 w] (i64 (kU w)):=by
 have h:=fun ok=>lN hp ok 6;refine bY hp rfl rfl ?_
 iterate 4
  all_goals(try(conv=>whnf))
  all_goals(first|(refine ae (fun hb=>?_) (fun hb=>?_))|(refine⟨_,h _ _,?_⟩)|skip)
 all_goals exact bR (by simp only[kU,hb];first|done|rfl)
def kfV:af:=.func (.func 130) [] []
theorem PR(hp:bV pr)(ws:List Int)(vG:ws.length<=1048576): ∀(N:Nat)(p:ax),SizeOf.sizeOf p<=N->p.small->dm pr 30 [p.enc,.sl (ws.map i64),kfV] (i64 (bQ kU ws p)):=by
 intro N
 induction N with
 |zero=>intro p h;exfalso;cases p;simp at h
 |succ N ih=>
 intro p hs fm;have sf:=GH hp p fm;have qV:=DJ hp;have xa:=GI hp;obtain⟨aw,n,aA,cells,a,b,ao,agg,c,al⟩:=p;obtain⟨qM,jK,fL,fB⟩:=dK fm;have eI: ∀q∈al,dm pr 30 [q.enc,.sl (ws.map i64),kfV] (i64 (bQ kU ws q)):=fun q hq=>ih q (by have:=List.sizeOf_lt_of_mem hq;simp at hs;omega) (fB q hq);clear ih hs;refine bY hp rfl rfl ?_;conv=>whnf
 refine⟨_,sf _,?_⟩;conv=>whnf
 refine ae (fun g0=>?_) (fun g0=>?_)
 ·have hlen:bX aw=al.length:=by simp only[shaped,ax.aw,ax.al,aj,beq_iff_eq]at g0;exact g0.1
  rcases eR aw with rfl|rfl|rfl|rfl|rfl|rfl|rfl|⟨h1,h2,h3,h4,h5,h6,h7⟩
  ·have hw:=fun h0=>xJ hp n aA cells a b ao agg c al ws h0 vG;have hP:bQ kU ws (.mk 1 n aA cells a b ao agg c al)=if ws.isEmpty then-1 else kU (bI (.mk 1 n aA cells a b ao agg c al) ws):=by rw[bQ,if_pos g0];rfl
   rw[hP];conv=>whnf
   refine ae (fun g1=>?_) (fun g1=>?_)
   ·conv=>whnf
    have:ws.isEmpty=true:=by simp at g1;simp[g1]
    exact bR (by rw[this];rfl)
   ·have kY:ws.isEmpty=false:=by simp at g1;simp[g1]
    conv=>whnf
    refine⟨_,qV _,?_⟩;conv=>whnf
    refine⟨_,hw (by simpa using kY) _,?_⟩;conv=>whnf
    refine⟨_,xa _ _,?_⟩;conv=>whnf
    exact bR (by rw[kY];rfl)
  ·match al,hlen,eI with
   | [q],_,eI=>
    have hq:=eI q (by simp);have hw:=fun w=>xK hp n aA cells a b ao agg c [q] w []
    have hP:bQ kU ws (.mk 2 n aA cells a b ao agg c [q])=if bQ kU ws q== -1 then-1 else kU (bI (.mk 2 n aA cells a b ao agg c [q]) [bQ kU ws q]):=by
     rw[bQ,if_pos g0];simp only[fY];cases(bQ kU ws q== -1)<;>rfl
    rw[hP];clear eI hP;generalize bQ kU ws q=wq at*;obtain⟨cd,n',cr,bK,a',b',cm,cX,c',bU⟩:=q;conv=>whnf
    refine cn ?_;conv=>whnf
    refine⟨_,rfl,by omega,rfl,?_⟩;conv=>whnf
    refine⟨_,hq _,?_⟩;conv=>whnf
    refine ae (fun g1=>?_) (fun g1=>?_)
    ·conv=>whnf
     exact bR (by rw[g1];rfl)
    ·conv=>whnf
     refine⟨trivial,?_⟩;conv=>whnf
     refine⟨rfl,?_⟩;conv=>whnf
     refine⟨by show 1<=4294967296;omega,?_⟩;conv=>whnf
     refine cn ?_;conv=>whnf
     refine⟨_,qV _,?_⟩;conv=>whnf
     refine⟨_,(hw wq).frozen rfl rfl rfl rfl,?_⟩;conv=>whnf
     refine⟨_,xa _ _,?_⟩;conv=>whnf
     exact bR (by rw[g1];rfl)
   | [],hk,_=>simp[bX]at hk
   |_::_::_,hk,_=>simp[bX]at hk;omega
  ·match al,hlen,eI with
   | [q],_,eI=>
    have hq:=eI q (by simp);have hw:=fun w=>Cj hp n aA cells a b ao agg c [q] w [] qM
    have hP:bQ kU ws (.mk 3 n aA cells a b ao agg c [q])=if bQ kU ws q== -1 then-1 else kU (bI (.mk 3 n aA cells a b ao agg c [q]) [bQ kU ws q]):=by
     rw[bQ,if_pos g0];simp only[fY];cases(bQ kU ws q== -1)<;>rfl
    rw[hP];clear eI hP;generalize bQ kU ws q=wq at*;obtain⟨cd,n',cr,bK,a',b',cm,cX,c',bU⟩:=q;conv=>whnf
    refine cn ?_;conv=>whnf
    refine⟨_,rfl,by omega,rfl,?_⟩;conv=>whnf
    refine⟨_,hq _,?_⟩;conv=>whnf
    refine ae (fun g1=>?_) (fun g1=>?_)
    ·conv=>whnf
     exact bR (by rw[g1];rfl)
    ·conv=>whnf
     refine⟨trivial,?_⟩;conv=>whnf
     refine⟨rfl,?_⟩;conv=>whnf
     refine⟨by show 1<=4294967296;omega,?_⟩;conv=>whnf
     refine cn ?_;conv=>whnf
     refine⟨_,qV _,?_⟩;conv=>whnf
     refine⟨_,(hw wq).frozen rfl rfl rfl rfl,?_⟩;conv=>whnf
     refine⟨_,xa _ _,?_⟩;conv=>whnf
     exact bR (by rw[g1];rfl)
   | [],hk,_=>simp[bX]at hk
   |_::_::_,hk,_=>simp[bX]at hk;omega
  ·match al,hlen,eI with
   | [q,q2],_,eI=>
    have hq:=eI q (by simp);have pg:=eI q2 (by simp);have hw:=fun w v=>Ad hp n aA cells a b ao agg c [q,q2] w v []
    have hP:bQ kU ws (.mk 4 n aA cells a b ao agg c [q,q2])=if bQ kU ws q== -1 then-1 else if bQ kU ws q2== -1 then-1 else kU (bI (.mk 4 n aA cells a b ao agg c [q,q2]) [bQ kU ws q,bQ kU ws q2]):=by
     rw[bQ,if_pos g0];simp only[fY];cases(bQ kU ws q== -1)<;>cases(bQ kU ws q2== -1)<;>rfl
    rw[hP];clear eI hP;generalize bQ kU ws q=wq at*;generalize bQ kU ws q2=UE at*;obtain⟨cd,n',cr,bK,a',b',cm,cX,c',bU⟩:=q;obtain⟨nv,n2,nx,jQ,a2,b2,nz,tO,c2,nA⟩:=q2;conv=>whnf
    refine cn ?_;conv=>whnf
    refine⟨_,rfl,by omega,rfl,?_⟩;conv=>whnf
    refine⟨_,hq _,?_⟩;conv=>whnf
    refine ae (fun g1=>?_) (fun g1=>?_)
    ·conv=>whnf
     exact bR (by rw[g1];rfl)
    ·conv=>whnf
     refine⟨trivial,?_⟩;conv=>whnf
     refine⟨rfl,?_⟩;conv=>whnf
     refine⟨by show 1<=4294967296;omega,?_⟩;conv=>whnf
     refine cn ?_;conv=>whnf
     refine⟨_,rfl,by decide,rfl,?_⟩;conv=>whnf
     refine⟨_,pg _,?_⟩;conv=>whnf
     refine ae (fun g2=>?_) (fun g2=>?_)
     ·conv=>whnf
      exact bR (by rw[g1,g2];rfl)
     ·conv=>whnf
      refine⟨trivial,?_⟩;conv=>whnf
      refine⟨rfl,?_⟩;conv=>whnf
      refine⟨rfl,rfl,by show 1<=1;omega,?_⟩;conv=>whnf
      refine⟨by show 1+1<=4294967296;omega,?_⟩;conv=>whnf
      refine cn ?_;conv=>whnf
      refine⟨_,qV _,?_⟩;conv=>whnf
      refine⟨_,(hw wq UE).frozen rfl rfl rfl rfl,?_⟩;conv=>whnf
      refine⟨_,xa _ _,?_⟩;conv=>whnf
      exact bR (by rw[g1,g2];rfl)
   | [],hk,_=>simp[bX]at hk
   | [_],hk,_=>simp[bX]at hk
   |_::_::_::_,hk,_=>simp[bX]at hk;omega
  ·match al,hlen,eI with
   | [q,q2],_,eI=>
    have hq:=eI q (by simp);have pg:=eI q2 (by simp);have hw:=fun w v=>Ae hp n aA cells a b ao agg c [q,q2] w v []
    have hP:bQ kU ws (.mk 5 n aA cells a b ao agg c [q,q2])=if bQ kU ws q== -1 then-1 else if bQ kU ws q2== -1 then-1 else kU (bI (.mk 5 n aA cells a b ao agg c [q,q2]) [bQ kU ws q,bQ kU ws q2]):=by
     rw[bQ,if_pos g0];simp only[fY];cases(bQ kU ws q== -1)<;>cases(bQ kU ws q2== -1)<;>rfl
    rw[hP];clear eI hP;generalize bQ kU ws q=wq at*;generalize bQ kU ws q2=UE at*;obtain⟨cd,n',cr,bK,a',b',cm,cX,c',bU⟩:=q;obtain⟨nv,n2,nx,jQ,a2,b2,nz,tO,c2,nA⟩:=q2;conv=>whnf
    refine cn ?_;conv=>whnf
    refine⟨_,rfl,by omega,rfl,?_⟩;conv=>whnf
    refine⟨_,hq _,?_⟩;conv=>whnf
    refine ae (fun g1=>?_) (fun g1=>?_)
    ·conv=>whnf
     exact bR (by rw[g1];rfl)
    ·conv=>whnf
     refine⟨trivial,?_⟩;conv=>whnf
     refine⟨rfl,?_⟩;conv=>whnf
     refine⟨by show 1<=4294967296;omega,?_⟩;conv=>whnf
     refine cn ?_;conv=>whnf
     refine⟨_,rfl,by decide,rfl,?_⟩;conv=>whnf
     refine⟨_,pg _,?_⟩;conv=>whnf
     refine ae (fun g2=>?_) (fun g2=>?_)
     ·conv=>whnf
      exact bR (by rw[g1,g2];rfl)
     ·conv=>whnf
      refine⟨trivial,?_⟩;conv=>whnf
      refine⟨rfl,?_⟩;conv=>whnf
      refine⟨rfl,rfl,by show 1<=1;omega,?_⟩;conv=>whnf
      refine⟨by show 1+1<=4294967296;omega,?_⟩;conv=>whnf
      refine cn ?_;conv=>whnf
      refine⟨_,qV _,?_⟩;conv=>whnf
      refine⟨_,(hw wq UE).frozen rfl rfl rfl rfl,?_⟩;conv=>whnf
      refine⟨_,xa _ _,?_⟩;conv=>whnf
      exact bR (by rw[g1,g2];rfl)
   | [],hk,_=>simp[bX]at hk
   | [_],hk,_=>simp[bX]at hk
   |_::_::_::_,hk,_=>simp[bX]at hk;omega
  ·match al,hlen,eI with
   | [q],_,eI=>
    have hq:=eI q (by simp);have hw:=fun w=>Af hp n aA cells a b ao agg c [q] w []
    have hP:bQ kU ws (.mk 6 n aA cells a b ao agg c [q])=if bQ kU ws q== -1 then-1 else kU (bI (.mk 6 n aA cells a b ao agg c [q]) [bQ kU ws q]):=by
     rw[bQ,if_pos g0];simp only[fY];cases(bQ kU ws q== -1)<;>rfl
    rw[hP];clear eI hP;generalize bQ kU ws q=wq at*;obtain⟨cd,n',cr,bK,a',b',cm,cX,c',bU⟩:=q;conv=>whnf
    refine cn ?_;conv=>whnf
    refine⟨_,rfl,by omega,rfl,?_⟩;conv=>whnf
    refine⟨_,hq _,?_⟩;conv=>whnf
    refine ae (fun g1=>?_) (fun g1=>?_)
    ·conv=>whnf
     exact bR (by rw[g1];rfl)
    ·conv=>whnf
     refine⟨trivial,?_⟩;conv=>whnf
     refine⟨rfl,?_⟩;conv=>whnf
     refine⟨by show 1<=4294967296;omega,?_⟩;conv=>whnf
     refine cn ?_;conv=>whnf
     refine⟨_,qV _,?_⟩;conv=>whnf
     refine⟨_,(hw wq).frozen rfl rfl rfl rfl,?_⟩;conv=>whnf
     refine⟨_,xa _ _,?_⟩;conv=>whnf
     exact bR (by rw[g1];rfl)
   | [],hk,_=>simp[bX]at hk
   |_::_::_,hk,_=>simp[bX]at hk;omega
  ·match al,hlen,eI with
   | [q],_,eI=>
    have hq:=eI q (by simp);have hw:=fun w=>xM hp n aA cells a b ao agg c [q] w [] jK
    have hP:bQ kU ws (.mk 7 n aA cells a b ao agg c [q])=if bQ kU ws q== -1 then-1 else kU (bI (.mk 7 n aA cells a b ao agg c [q]) [bQ kU ws q]):=by
     rw[bQ,if_pos g0];simp only[fY];cases(bQ kU ws q== -1)<;>rfl
    rw[hP];clear eI hP;generalize bQ kU ws q=wq at*;obtain⟨cd,n',cr,bK,a',b',cm,cX,c',bU⟩:=q;conv=>whnf
    refine cn ?_;conv=>whnf
    refine⟨_,rfl,by omega,rfl,?_⟩;conv=>whnf
    refine⟨_,hq _,?_⟩;conv=>whnf
    refine ae (fun g1=>?_) (fun g1=>?_)
    ·conv=>whnf
     exact bR (by rw[g1];rfl)
    ·conv=>whnf
     refine⟨trivial,?_⟩;conv=>whnf
     refine⟨rfl,?_⟩;conv=>whnf
     refine⟨by show 1<=4294967296;omega,?_⟩;conv=>whnf
     refine cn ?_;conv=>whnf
     refine⟨_,qV _,?_⟩;conv=>whnf
     refine⟨_,(hw wq).frozen rfl rfl rfl rfl,?_⟩;conv=>whnf
     refine⟨_,xa _ _,?_⟩;conv=>whnf
     exact bR (by rw[g1];rfl)
   | [],hk,_=>simp[bX]at hk
   |_::_::_,hk,_=>simp[bX]at hk;omega
  ·exfalso;simp only[beq_eq_false_iff_ne,ne_eq]at*;simp[bX,h1,h2,h3,h4,h5,h6,h7]at hlen
   try omega
 ·conv=>whnf
  exact bR (by rw[bQ,if_neg (by rw[g0];simp)])
end Go.Proofs.YtfepbikckfehlaaGreat

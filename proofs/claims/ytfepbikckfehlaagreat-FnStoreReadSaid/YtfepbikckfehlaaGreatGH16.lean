/- The look at every function of the seat. -/
import Derived.Test.YtfepbikckfehlaaGreatGH15
import Derived.Test.YtfepbikckfehlaaGreatGH13
import Derived.Test.YtfepbikckfehlaaGreatGH14
import Derived.Test.YtfepbikckfehlaaGreatGH12
set_option linter.unusedVariables false
set_option linter.unusedSimpArgs false
set_option maxHeartbeats 4000000
namespace Go.Proofs.YtfepbikckfehlaaGreat
open Go Go.Am
variable{pr:bL}(hp:bV pr)
set_option maxRecDepth 100000
structure Item where
 row:List Int
 w:Int
def Item.enc(x:Item):af:=.agg [.sl (x.row.map i64),i64 x.w]
def gi(z:List Item):Prop:=z.length<=cM/\ ∀x∈z,x.row.length<=cM
def Nu(w:Int):Bool:=!decide (w< -10000)&&(!decide (w>10000)&& !(w==0))
def B5:Option (List Int)->List Item->Bool
 |_,[]=>true
 |p,x::xs=>(nh x.row&&(Nu x.w&&(match p with|none=>true|some q=>eg q x.row)))&&B5 (some x.row) xs
def c7(z:List Item):Bool:=decide (z.length<=100)&&B5 none z
def lF(z:List Item):Option (List Int):=z.getLast?.map Item.row
theorem mG{z:List Item}{j:Nat}(h:j<z.length):lF (z.take (j+1))=some z[j].row:=by
 unfold lF;rw[show z.take (j+1)=z.take j++[z[j]] by rw[List.take_add_one];simp[h],List.getLast?_concat];rfl
theorem rE(hp:bV pr)(z:List Item)(hz:gi z):dm pr 11 [.sl (z.map Item.enc)] (.bool (c7 z)):=by
 obtain⟨hl,hr⟩:=hz;refine ea hp rfl rfl ?_;have S:ah [] []:=ah.nil [];conv=>whnf
 refine ae (fun h0=>?_) (fun h0=>?_)
 ·conv=>whnf
  exact bH (by have: ¬z.length<=100:=by simp at h0;omega
               simp[c7,this])
 have hz:c7 z=B5 none z:=by
  have:z.length<=100:=by simp at h0;omega
  simp[c7,this]
 rw[hz];clear hz h0;conv=>whnf
 refine ga (fun m tm hp=>∃(j:Nat),j+m=z.length/\tm 10=i64 (j:Nat)/\(B5 none z=B5 (lF (z.take j)) (z.drop j))) (fun m tm hq bz hI=>?_) (z.length) ⟨0,by simp,(by first|rfl|kernel_rfl|simp),(by simp[lF])⟩;obtain⟨j,hj,qX,aD⟩:=hI;have k0:=bz 0 (by kernel_rfl);conv at k0=>rhs;whnf
 rw[<-aP k0];have k8:=bz 8 (by kernel_rfl);conv at k8=>rhs;whnf
 rw[<-aP k8];have k9:=bz 9 (by kernel_rfl);conv at k9=>rhs;whnf
 rw[<-aP k9];rw[<-aP qX];clear bz k0 k8 k9 qX;have S:ah hq []:=ah.nil hq;conv=>whnf
 refine ae (fun h1=>?_) (fun h1=>?_)
 ·have bq:j<z.length:=by simpa using h1
  have eC:=mG bq;have cx:(z.map Item.enc)[((j:Nat):Int).toNat]?=some (Item.enc z[j]):=by rw[aq];simp[bq]
  have dT:=hr z[j] (ay bq);rw[ar bq]at aD;simp only[B5]at aD
  cases j with
  |zero=>
   have gZ:lF (z.take 0)=none:=by simp[lF]
   rw[gZ]at aD;generalize z[0]=x at cx dT aD eC;obtain⟨row,w⟩:=x;have h2:=FH hp row dT;simp only[Nu]at aD;conv=>whnf
   refine⟨_,cx,by omega,rfl,?_⟩
   iterate 14
    all_goals(try(conv=>whnf))
    all_goals(first|(intro ke cg er bn;replace S:=S.alloc er bn)|(refine .inl ⟨_,S.row 0 rfl,rfl,?_⟩)|(refine .inl ⟨_,S.row 1 rfl,rfl,?_⟩)|(refine .inl ⟨_,S.row 2 rfl,rfl,?_⟩)|(refine .inl ⟨_,S.row 3 rfl,rfl,?_⟩)|(refine .inl ⟨_,S.row 4 rfl,rfl,?_⟩)|(refine⟨_,rfl,rfl,rfl,.inl ⟨_,S.row 0 rfl,rfl,?_⟩⟩;(conv=>whnf);intro cg bn;replace S:=S.w0 bn)|(refine⟨_,rfl,rfl,rfl,.inl ⟨_,S.row 1 rfl,rfl,?_⟩⟩;(conv=>whnf);intro cg bn;replace S:=S.w1 bn)|(refine⟨_,rfl,rfl,rfl,.inl ⟨_,S.row 2 rfl,rfl,?_⟩⟩;(conv=>whnf);intro cg bn;replace S:=S.w2 bn)|(refine⟨_,rfl,rfl,rfl,.inl ⟨_,S.row 3 rfl,rfl,?_⟩⟩;(conv=>whnf);intro cg bn;replace S:=S.w3 bn)|(refine⟨_,rfl,rfl,rfl,.inl ⟨_,S.row 4 rfl,rfl,?_⟩⟩;(conv=>whnf);intro cg bn;replace S:=S.w4 bn)|(refine ae (fun hb=>?_) (fun hb=>?_))|(refine⟨_,h2 _,?_⟩)|skip)
   all_goals first
    |exact bH (by clear cx eC h2 hr dT;simp_all)
    |exact⟨m-1,by omega,1,by omega,aQ 0 (by omega),by rw[eC,aD];clear cx eC h2 hr dT aD;simp_all⟩
  |succ i=>
   have gZ:=mG (z:=z) (j:=i) (by omega);rw[gZ]at aD;have hw:IntKind.i64.wrap (((i+1:Nat):Int)-1)=(i:Nat):=by rw[aY];simp[cM]at hl;omega
   have qR:(z.map Item.enc)[(IntKind.i64.wrap (((i+1:Nat):Int)-1)).toNat]?=some (Item.enc z[i]):=by rw[hw,aq];simp[show i<z.length by omega]
   have uJ:=hr z[i] (ay (by omega));generalize z[i+1]=x at cx dT aD eC;generalize z[i]=y at qR uJ aD gZ;obtain⟨row,w⟩:=x;obtain⟨FJ,w2⟩:=y;have h2:=FH hp row dT;have h3:=IU hp FJ row uJ dT;simp only[Nu]at aD;conv=>whnf
   refine⟨_,cx,by omega,rfl,?_⟩
   iterate 18
    all_goals(try(conv=>whnf))
    all_goals(first|(refine⟨_,qR,by omega,rfl,?_⟩)|(intro ke cg er bn;replace S:=S.alloc er bn)|(refine .inl ⟨_,S.row 0 rfl,rfl,?_⟩)|(refine .inl ⟨_,S.row 1 rfl,rfl,?_⟩)|(refine .inl ⟨_,S.row 2 rfl,rfl,?_⟩)|(refine .inl ⟨_,S.row 3 rfl,rfl,?_⟩)|(refine .inl ⟨_,S.row 4 rfl,rfl,?_⟩)|(refine⟨_,rfl,rfl,rfl,.inl ⟨_,S.row 0 rfl,rfl,?_⟩⟩;(conv=>whnf);intro cg bn;replace S:=S.w0 bn)|(refine⟨_,rfl,rfl,rfl,.inl ⟨_,S.row 1 rfl,rfl,?_⟩⟩;(conv=>whnf);intro cg bn;replace S:=S.w1 bn)|(refine⟨_,rfl,rfl,rfl,.inl ⟨_,S.row 2 rfl,rfl,?_⟩⟩;(conv=>whnf);intro cg bn;replace S:=S.w2 bn)|(refine⟨_,rfl,rfl,rfl,.inl ⟨_,S.row 3 rfl,rfl,?_⟩⟩;(conv=>whnf);intro cg bn;replace S:=S.w3 bn)|(refine⟨_,rfl,rfl,rfl,.inl ⟨_,S.row 4 rfl,rfl,?_⟩⟩;(conv=>whnf);intro cg bn;replace S:=S.w4 bn)|(refine ae (fun hb=>?_) (fun hb=>?_))|(refine⟨_,h2 _,?_⟩)|(refine⟨_,h3 _,?_⟩)|skip)
   all_goals first
    |exact bH (by clear cx qR eC h2 h3 hr dT uJ hw gZ;simp_all)
    |exact⟨m-1,by omega,i+1+1,by omega,aQ (i+1) (by simp[cM]at hl;omega),by rw[eC,aD];clear cx qR eC h2 h3 hr dT uJ aD hw gZ;simp_all⟩
 ·have bq:j=z.length:=by have: ¬j<z.length:=by simpa using h1
                         omega
  subst bq;rw[aL]at aD;conv=>whnf
  exact bH (by rw[aD];rfl)
end Go.Proofs.YtfepbikckfehlaaGreat
set_option maxHeartbeats 4000000
namespace Go.Am
open Go
theorem ah.merge{h:aC}{L:List Chunk}{c d e:Chunk}(s:ah h (c::d::L))(he:e.P h)(hF: ∀id∈e.F,id∈c.F∨id∈d.F)(hn:e.F.Nodup):ah h (e::L):=by
 refine⟨fun i x hi=>?_,fun i j x y xl hi hj id cq=>?_⟩
 ·cases i with
  |zero=>simp at hi;subst hi;exact⟨he,hn⟩
  |succ i=>exact s.get' (i+2) x (by simpa using hi)
 ·cases i with
  |zero=>
   simp at hi;subst hi
   cases j with
   |zero=>exact absurd rfl xl
   |succ j=>
    rcases hF id cq with h1|h1
    ·exact s.apart 0 (j+2) c y (by omega) rfl (by simpa using hj) id h1
    ·exact s.apart 1 (j+2) d y (by omega) rfl (by simpa using hj) id h1
  |succ i=>
   cases j with
   |zero=>
    simp at hj;subst hj;intro hm;rcases hF id hm with h1|h1
    ·exact s.apart (i+2) 0 x c (by omega) (by simpa using hi) rfl id cq h1
    ·exact s.apart (i+2) 1 x d (by omega) (by simpa using hi) rfl id cq h1
   |succ j=>exact s.apart (i+2) (j+2) x y (by omega) (by simpa using hi) (by simpa using hj) id cq
theorem tC{F G:List Nat}(h1:F.Nodup)(h2:G.Nodup)(h3: ∀id∈F,id∉G):(F++G).Nodup:=by
 rw[List.nodup_append];exact⟨h1,h2,fun a ha b hb e=>h3 a ha (e▸hb)⟩
theorem ah.IW{h:aC}{L:List Chunk}{c d:Chunk}(s:ah h (c::d::L)):(d.F++c.F).Nodup:=tC (s.get' 1 d rfl).2 (s.get' 0 c rfl).2 (s.apart 1 0 d c (by omega) rfl rfl)
theorem ah.swap{h:aC}{L:List Chunk}{c d:Chunk}(s:ah h (c::d::L)):ah h (d::c::L):=by
 have key: ∀i x,(d::c::L)[i]?=some x-> ∃j,(c::d::L)[j]?=some x/\(i=0->j=1)/\(i=1->j=0)/\(2<=i->j=i):=by
  intro i x hi
  match i,hi with
  |0,hi=>exact⟨1,by simpa using hi,by simp,by simp,by simp⟩
  |1,hi=>exact⟨0,by simpa using hi,by simp,by simp,by simp⟩
  |i+2,hi=>exact⟨i+2,by simpa using hi,by simp,by omega,by simp⟩
 refine⟨fun i x hi=>?_,fun i j x y xl hi hj=>?_⟩
 ·obtain⟨k,hk,_⟩:=key i x hi;exact s.get' k x hk
 ·obtain⟨k,hk,k0,k1,k2⟩:=key i x hi;obtain⟨l,hl,l0,l1,l2⟩:=key j y hj;refine s.apart k l x y ?_ hk hl;rcases Nat.lt_or_ge i 2 with h1|h1<;>rcases Nat.lt_or_ge j 2 with h2|h2
  ·rcases(by omega:i=0∨i=1)with h3|h3<;>rcases(by omega:j=0∨j=1)with h4|h4<;>first|omega|(have:=k0 h3;have:=l1 h4;omega)|(have:=k1 h3;have:=l0 h4;omega)
  ·have:=l2 h2;rcases(by omega:i=0∨i=1)with h3|h3
   ·have:=k0 h3;omega
   ·have:=k1 h3;omega
  ·have:=k2 h1;rcases(by omega:j=0∨j=1)with h3|h3
   ·have:=l0 h3;omega
   ·have:=l1 h3;omega
  ·have:=k2 h1;have:=l2 h2;omega
end Go.Am
namespace Go.Proofs.YtfepbikckfehlaaGreat
open Go Go.Am
variable{pr:bL}(hp:bV pr)
def WH:af:=.agg [i64 0,i64 0,i64 0,.bool false,i64 0,i64 0,i64 0,i64 0,i64 0,i64 0,i64 0,i64 0,.nil,i64 0,i64 0,.nil,i64 0,i64 0,.nil]
theorem i7.cell{α:Type}{f:α->af}{sz:Nat}{h:aC}{xs:List α}{v:af}{F:List Nat}(ho:i7 f sz h xs v F):v.cells=[v]/\v.bE=true:=by
 rcases ho with⟨_,_,rfl|rfl⟩|⟨id,rfl,_,_⟩<;>exact⟨rfl,rfl⟩
theorem nR.cell{h:aC}{ps:List ax}{D:af}{F:List Nat}(ho:nR h ps D F):D.cells=[D]/\D.bE=true:=by
 rcases ho with⟨_,rfl,_⟩|⟨id,vs,Fs,rfl,_⟩<;>exact⟨rfl,rfl⟩
theorem FL{C:af}(h:C.bE=true):[C].all af.bE=true:=by simp[h]
theorem FQ{aw n:Int}{aA:Test}{C:af}{a b:Int}{K:af}{agg col:Int}{D:af}(h1:C.bE=true)(h2:K.bE=true)(h3:D.bE=true):(lL aw n aA C a b K agg col D).cells.all af.bE=true:=by
 simp only[lL,af.cells,List.all_cons,h1,h2,h3,List.all_nil,Bool.and_true];rfl
set_option maxRecDepth 100000
end Go.Proofs.YtfepbikckfehlaaGreat
set_option maxHeartbeats 4000000
namespace Go.Proofs.YtfepbikckfehlaaGreat
open Go Go.Am
variable{pr:bL}(hp:bV pr)
set_option maxRecDepth 100000
theorem jH.of{h:aC}{aw n:Int}{aA:Test}{cells:List Cell}{a b:Int}{ao:List Int}{agg col:Int}{al:List ax}{C K D:af}{Fc Fk Fd:List Nat}
  (h1:i7 Cell.enc 4 h cells C Fc) (h2:i7 i64 1 h ao K Fk) (h3:nR h al D Fd):jH h (.mk aw n aA cells a b ao agg col al) (lL aw n aA C a b K agg col D) (Fc++(Fk++Fd)):=
   kA.2 ⟨C,K,D,Fc,Fk,Fd,rfl,h1,h2,h3,rfl⟩
end Go.Proofs.YtfepbikckfehlaaGreat
set_option maxHeartbeats 4000000
namespace Go.Am
open Go
theorem ah.rF{h:aC}: ∀{L:List Chunk},ah h L->(L.flatMap Chunk.F).Nodup
 | [],_=>by simp
 |c::L,s=>by
  rw[List.flatMap_cons,List.nodup_append];refine⟨(s.get' 0 c rfl).2,ah.rF (s.drop 0),fun a ha b hb e=>?_⟩;subst e;obtain⟨d,hd,hm⟩:=List.mem_flatMap.1 hb;obtain⟨i,hi⟩:=List.getElem?_of_mem hd;exact s.apart 0 (i+1) c d (by omega) rfl (by simpa using hi) a ha hm
end Go.Am
namespace Go.Proofs.YtfepbikckfehlaaGreat
open Go Go.Am
variable{pr:bL}(hp:bV pr)
set_option maxRecDepth 100000
theorem bP.cell{h:aC}{sz:Nat}{xs:List ba}{v:af}{F:List Nat}(ho:bP h (.s sz xs) v F):v.cells=[v]/\v.bE=true:=by
 simp only[bP]at ho;rcases ho with⟨_,_,rfl|rfl⟩|⟨id,vs,Fs,rfl,_⟩<;>exact⟨rfl,rfl⟩
theorem eL{h:aC}{vs:List af}{F:List Nat}:ep h [] vs F↔vs=[]/\F=[]:=by simp only[ep]
theorem ni{h:aC}{x:Int}{ds:List ba}{vs:List af}{F:List Nat}:ep h (.i x::ds) vs F↔ ∃eo,vs=i64 x::eo/\ep h ds eo F:=by
 simp only[ep,bP];constructor
 ·rintro ⟨v,eo,F1,F2,rfl,rfl,⟨rfl,rfl⟩,h2⟩
  exact⟨eo,rfl,h2⟩
 ·rintro ⟨eo,rfl,h2⟩
  exact⟨_,eo,[],F,rfl,rfl,⟨rfl,rfl⟩,h2⟩
theorem kD{h:aC}{sz:Nat}{xs ds:List ba}{vs:List af}{F:List Nat}:ep h (.s sz xs::ds) vs F↔ ∃v eo F1 F2,vs=v::eo/\F=F1++F2/\bP h (.s sz xs) v F1/\ep h ds eo F2:=by
 rw[ep];constructor
 ·rintro ⟨v,eo,F1,F2,rfl,rfl,h1,h2⟩
  exact⟨v,eo,F1,F2,by rw[h1.cell.1];rfl,rfl,h1,h2⟩
 ·rintro ⟨v,eo,F1,F2,rfl,rfl,h1,h2⟩
  exact⟨v,eo,F1,F2,by rw[h1.cell.1];rfl,rfl,h1,h2⟩
theorem Dg{h:aC}{es ds:List ba}{vs:List af}{F:List Nat}:ep h (.g es::ds) vs F↔ ∃us eo F1 F2,vs=us++eo/\F=F1++F2/\ep h es us F1/\ep h ds eo F2:=by
 rw[ep];constructor
 ·rintro ⟨v,eo,F1,F2,rfl,rfl,h1,h2⟩
  simp only[bP]at h1;obtain⟨us,rfl,h1⟩:=h1;exact⟨us,eo,F1,F2,rfl,rfl,h1,h2⟩
 ·rintro ⟨us,eo,F1,F2,rfl,rfl,h1,h2⟩
  exact⟨.agg us,eo,F1,F2,rfl,rfl,by simp only[bP];exact⟨us,rfl,h1⟩,h2⟩
def bB(aw n:Int)(aA:Test)(C:af)(a b:Int)(K:af)(agg col:Int)(D:af)(r:List af):List af:=
 i64 aw::i64 n::i64 aA.aw:: .bool aA.no::i64 aA.l.aw::i64 aA.l.a::i64 aA.l.b::i64 aA.l.n::i64 aA.r.aw::i64 aA.r.a::i64 aA.r.b::i64 aA.r.n::
  C::i64 a::i64 b::K::i64 agg::i64 col::D::r
theorem OY{h:aC}{aw n:Int}{aA:Test}{cells:List Cell}{a b:Int}{ao:List Int}{agg col:Int}{al:List ax}{ds:List ba}{vs:List af}{F:List Nat}:
  ep h (.p (.mk aw n aA cells a b ao agg col al)::ds) vs F↔ ∃C K D Fc Fk Fd eo F2,vs=bB aw n aA C a b K agg col D eo/\i7 Cell.enc 4 h cells C Fc/\i7 i64 1 h ao K Fk/\nR h al D Fd/\F=(Fc++(Fk++Fd))++F2/\ep h ds eo F2:=by
   rw[ep];simp only[bP];constructor
   ·rintro ⟨v,eo,F1,F2,rfl,rfl,h1,h2⟩
    rw[kA]at h1;obtain⟨C,K,D,Fc,Fk,Fd,rfl,h3,h4,h5,rfl⟩:=h1;exact⟨C,K,D,Fc,Fk,Fd,eo,F2,rfl,h3,h4,h5,rfl,h2⟩
   ·rintro ⟨C,K,D,Fc,Fk,Fd,eo,F2,rfl,h3,h4,h5,rfl,h2⟩
    exact⟨lL aw n aA C a b K agg col D,eo,_,F2,rfl,rfl,jH.of h3 h4 h5,h2⟩
theorem ek{h:aC}{L:List Chunk}{f:FuncId}{args cH:List af}{d:ba} [hu:zD d]{K:dz->Prop}(S:ah h L)(hr:kC pr f cH d)(hM:fF f=Am.Mode.N)(hs:cj h args=some cH)
  (hK: ∀v hh F,bP hh d v F->ah hh (.cU d v F::L)->K (.ret v hh)): ∃r,bN (du pr) (call (du pr)) f args h=some r/\K r:=by
   obtain⟨v,hh,F,hc,pe,ho,hn,hd⟩:=hr.at (h:=h) hM hs;exact⟨_,hc,hK v hh F ho (S.more pe ho hn hd)⟩
theorem LZ.Zl{f:FuncId}{args:List af}{xs:List Int}(hr:LZ i64 1 pr f args xs):kC pr f args (.s 1 (xs.map ba.i)):=by
 obtain⟨v,h1,F,hc,ho,hn⟩:=hr;exact⟨v,h1,F,hc,IN.1 ho,hn⟩
theorem Rl.Zl{f:FuncId}{args:List af}{p:ax}(hr:Rl pr f args p):kC pr f args (.p p):=by
 obtain⟨v,h1,F,hc,ho,hn⟩:=hr;exact⟨v,h1,F,hc,by simp only[bP];exact ho,hn⟩
theorem bC{c:af}{r:List af}(h:c.bE=true)(h2:r.all af.bE=true):(c::r).all af.bE=true:=by simp[h,h2]
theorem yx{P:Program}{fn:Func}{st:St}{dd t k:Nat}{x:af}{vs:List af}{ds:List ba}{F:List Nat}(hr:fn.results.toList=[.cell dd t])(ht:st.tm dd= .ptr k 0 0)(hk:st.hp[k]?=some (.box x))(hv:ff P t x 0=some (.agg vs))
  (ho:ep st.hp ds vs F) (hn:F.Nodup): ∃r,oZ P fn (some (.ret st))=some r/\ ∃v h F,r= .ret v h/\bP h (.g ds) v F/\F.Nodup:=
   ⟨_,dI hr ht hk hv,_,_,F,rfl,by simp only[bP];exact⟨vs,rfl,ho⟩,hn⟩
def gq.d(xs:List Int):ba:=.s 1 (xs.map ba.i)
def Item.d(x:Item):ba:=.g [gq.d x.row,.i x.w]
def aE.enc(xs:List Item):af:=.sl (xs.map Item.enc)
def aE.d(xs:List Item):ba:=.s 2 (xs.map Item.d)
def bM.enc(xs:List (List Item)):af:=.sl (xs.map aE.enc)
def bM.d(xs:List (List Item)):ba:=.s 1 (xs.map aE.d)
inductive bA where
 |mk (dx:ax) (left right:List (List Item)) (al:List bA)
mutual
def bA.enc:bA->af
 | .mk (.mk aw n aA cells a b ao agg col al) l r ks=>.agg (bB aw n aA (.sl (cells.map Cell.enc)) a b (.sl (ao.map i64)) agg col (.sl (ax.cz al)) [bM.enc l,bM.enc r,.sl (bA.cz ks)])
def bA.cz:List bA->List af
 | []=>[]
 |f::fs=>f.enc::bA.cz fs
end
mutual
def bA.d:bA->ba
 | .mk p l r ks=>.g [.p p,.g [bM.d l],.g [bM.d r],.s 22 (bA.ds ks)]
def bA.ds:List bA->List ba
 | []=>[]
 |f::fs=>f.d::bA.ds fs
end
structure cC where
 cA:Int
 out:List Item
def cC.enc(x:cC):af:=.agg [i64 x.cA,aE.enc x.out]
def cC.d(x:cC):ba:=.g [.i x.cA,aE.d x.out]
structure View where
 fM:bA
 bF:Int
 base:List Item
 aZ:List cC
def View.enc(x:View):af:=.agg (x.fM.enc.cells++[i64 x.bF,aE.enc x.base,.sl (x.aZ.map cC.enc)])
def View.d(x:View):ba:=.g [x.fM.d,.i x.bF,aE.d x.base,.s 2 (x.aZ.map cC.d)]
structure bJ where
 bc:List Int
 aF:List (List Item)
 aK:List View
 now:Int
 keep:Int
def bJ.enc(x:bJ):af:=.agg [.sl (x.bc.map i64),bM.enc x.aF,.sl (x.aK.map View.enc),i64 x.now,i64 x.keep]
def bJ.d(x:bJ):ba:=.g [gq.d x.bc,bM.d x.aF,.s 25 (x.aK.map View.d),.i x.now,.i x.keep]
instance(xs:List Int):zD (gq.d xs):=by unfold gq.d;infer_instance
instance(x:Item):zD x.d:=by unfold Item.d;infer_instance
instance(xs:List Item):zD (aE.d xs):=by unfold aE.d;infer_instance
instance(xs:List (List Item)):zD (bM.d xs):=by unfold bM.d;infer_instance
theorem FU: ∀(N:Nat),(∀f:bA,SizeOf.sizeOf f<=N->f.d.KA=true)/\ ∀fs:List bA,SizeOf.sizeOf fs<=N->ba.po (bA.ds fs)=true:=by
 intro N
 induction N with
 |zero=>
  refine⟨fun f hs=>?_,fun fs hs=>?_⟩
  ·cases f;simp at hs
  ·cases fs<;>simp at hs
 |succ N ih=>
  refine⟨fun f hs=>?_,fun fs hs=>?_⟩
  ·obtain⟨p,l,r,ks⟩:=f;simp only[bA.mk.sizeOf_spec]at hs;have:=ih.2 ks (by omega);simp only[bA.d,ba.KA,ba.po,this,(inferInstance:zD (bM.d l)).ok,(inferInstance:zD (bM.d r)).ok,Bool.and_self]
  ·cases fs with
   |nil=>rfl
   |cons f fs=>
    simp at hs;simp only[bA.ds,ba.po,ih.1 f (by omega),ih.2 fs (by omega),Bool.and_self]
instance(f:bA):zD f.d:=⟨(FU _).1 f (aB _)⟩
instance(fs:List bA):uI (bA.ds fs):=⟨(FU _).2 fs (aB _)⟩
instance(x:cC):zD x.d:=by unfold cC.d;infer_instance
instance(x:View):zD x.d:=by unfold View.d;infer_instance
instance(x:bJ):zD x.d:=by unfold bJ.d;infer_instance
theorem iD{α:Type}{f:α->ba}{g:α->af}(h: ∀x,(f x).enc=g x)(xs:List α):ba.cz (xs.map f)=xs.map g:=by
 rw[ba.nb,List.map_map];exact List.map_congr_left fun x _=>h x
theorem Item.eD(x:Item):x.d.enc=x.enc:=by
 simp only[Item.d,gq.d,ba.enc,ba.sL,ba.tA,af.cells];rfl
theorem aE.eD(xs:List Item):(aE.d xs).enc=aE.enc xs:=by simp only[aE.d,aE.enc,ba.enc,iD Item.eD]
theorem bM.eD(xs:List (List Item)):(bM.d xs).enc=bM.enc xs:=by simp only[bM.d,bM.enc,ba.enc,iD aE.eD]
theorem bM.cells(xs:List (List Item)):(bM.d xs).enc.cells=[bM.enc xs]:=by rw[bM.eD];rfl
mutual
theorem bA.eD: ∀f:bA,f.d.enc=f.enc
 | .mk (.mk aw n aA cells a b ao agg col al) l r ks=>by
  simp only[bA.d,bA.enc,ba.enc,ba.sL,bA.OZ ks,bM.cells,aU];simp only[af.cells,ax.enc];rfl
theorem bA.OZ: ∀fs:List bA,ba.cz (bA.ds fs)=bA.cz fs
 | []=>by simp[bA.ds,ba.cz,bA.cz]
 |f::fs=>by simp only[bA.ds,ba.cz,bA.cz,bA.eD f,bA.OZ fs]
end
theorem cC.eD(x:cC):x.d.enc=x.enc:=by
 simp only[cC.d,cC.enc,ba.enc,ba.sL,aE.eD,af.cells];rfl
theorem View.eD(x:View):x.d.enc=x.enc:=by
 simp only[View.d,View.enc,ba.enc,ba.sL,aE.eD,bA.eD,iD cC.eD];rfl
theorem bJ.eD(x:bJ):x.d.enc=x.enc:=by
 simp only[bJ.d,bJ.enc,gq.d,ba.enc,ba.sL,ba.tA,bM.cells,iD View.eD];rfl
end Go.Proofs.YtfepbikckfehlaaGreat
set_option maxHeartbeats 4000000
namespace Go.Proofs.YtfepbikckfehlaaGreat
open Go Go.Am
variable{pr:bL}(hp:bV pr)
set_option maxRecDepth 100000
theorem dn{α:Type}{xs:List α}{j:Nat}(h:j<xs.length):xs.take (j+1)=xs.take j++[xs[j]]:=by rw[List.take_add_one];simp[h]
theorem ed{α:Type}{f:α->ba}{x:α}{xs:List α}(h:x∈xs):(f x).eX<=ba.eQ (xs.map f):=ba.Fj (bj.2 ⟨x,h,rfl⟩)
theorem gJ{h:aC}{d:ba}{v:af}{ds:List ba}{vs:List af}{F1 F2:List Nat}(h1:bP h d v F1)(h2:ep h ds vs F2):ep h (d::ds) (v.cells++vs) (F1++F2):=by
 simp only[ep];exact⟨v,vs,F1,F2,rfl,rfl,h1,h2⟩
theorem iF{h:aC}{sz:Nat}{xs:List ba}{v:af}{ds:List ba}{vs:List af}{F1 F2:List Nat}(h1:bP h (.s sz xs) v F1)(h2:ep h ds vs F2):ep h (.s sz xs::ds) (v::vs) (F1++F2):=kD.2 ⟨v,vs,F1,F2,rfl,rfl,h1,h2⟩
theorem ee{h:aC}{x:Int}{ds:List ba}{vs:List af}{F:List Nat}(h2:ep h ds vs F):ep h (.i x::ds) (i64 x::vs) F:=ni.2 ⟨vs,rfl,h2⟩
theorem gE{h:aC}:ep h [] [] []:=eL.2 ⟨rfl,rfl⟩
theorem bP.slice{h:aC}{sz:Nat}{xs:List ba}{v:af}{F:List Nat}(ho:bP h (.s sz xs) v F):v= .nil∨v= .sl []∨ ∃id n,v= .own id 0 n:=by
 simp only[bP]at ho;rcases ho with⟨_,_,rfl|rfl⟩|⟨id,vs,Fs,rfl,_⟩
 ·exact .inl rfl
 ·exact .inr (.inl rfl)
 ·exact .inr (.inr ⟨_,_,rfl⟩)
theorem nU{aw n:Int}{aA:Test}{C:af}{a b:Int}{K:af}{agg col:Int}{D:af}{r:List af}(h1:C.bE=true)(h2:K.bE=true)(h3:D.bE=true)(h4:r.all af.bE=true):(bB aw n aA C a b K agg col D r).all af.bE=true:=by
 simp only[bB,List.all_cons,h1,h2,h3,h4,Bool.and_true];rfl
theorem gx{h:aC}{ds:List ba}{v:af}{F:List Nat}:bP h (.g ds) v F↔ ∃vs,v= .agg vs/\ep h ds vs F:=by simp only[bP]
theorem KF{h:aC}{sz:Nat}{xs:List ba}{A:af}{ds:List ba}{vs:List af}{F1 F2:List Nat}(h1:bP h (.g [.s sz xs]) (.agg [A]) F1)(h2:ep h ds vs F2):ep h (.g [.s sz xs]::ds) (A::vs) (F1++F2):=gJ h1 h2
theorem Dh{h:aC}{aw n:Int}{aA:Test}{cells:List Cell}{a b:Int}{ao:List Int}{agg col:Int}{al:List ax}{C K D:af}{ds:List ba}{vs:List af}{F1 F2:List Nat}
  (h1:bP h (.p (.mk aw n aA cells a b ao agg col al)) (lL aw n aA C a b K agg col D) F1) (h2:ep h ds vs F2):ep h (.p (.mk aw n aA cells a b ao agg col al)::ds) (bB aw n aA C a b K agg col D vs) (F1++F2):=gJ h1 h2
theorem Rv{h:aC}{es:List ba}{aw n:Int}{aA:Test}{C:af}{a b:Int}{K:af}{agg col:Int}{D L R KS:af}{ds:List ba}{vs:List af}{F1 F2:List Nat}
  (h1:bP h (.g es) (.agg (bB aw n aA C a b K agg col D [L,R,KS])) F1) (h2:ep h ds vs F2):ep h (.g es::ds) (bB aw n aA C a b K agg col D (L::R::KS::vs)) (F1++F2):=gJ h1 h2
theorem bA.nb(xs:List bA):bA.cz xs=xs.map bA.enc:=by induction xs with|nil=>rfl|cons x xs ih=>simp[bA.cz,ih]
theorem bA.Di(xs:List bA):bA.ds xs=xs.map bA.d:=by induction xs with|nil=>rfl|cons x xs ih=>simp[bA.ds,ih]
theorem O0{p:ax}(h:p.sz<=1048576):p.small:=h
def KG:af:=.agg [i64 0,i64 0,i64 0,.bool false,i64 0,i64 0,i64 0,i64 0,i64 0,i64 0,i64 0,i64 0,.nil,i64 0,i64 0,.nil,i64 0,i64 0,.nil,.nil,.nil,.nil]
end Go.Proofs.YtfepbikckfehlaaGreat
set_option maxHeartbeats 4000000
namespace Go.Am
open Go
structure Fr(h0 h:aC)(F:List Nat):Prop where
 len:h0.length<=h.length
 out: ∀id,id<h0.length->id∉F->h[id]?=h0[id]?
theorem Fr.refl(h:aC)(F:List Nat):Fr h h F:=⟨aB _,fun _ _ _=>rfl⟩
theorem Fr.set{h0 h h':aC}{F:List Nat}{k:Nat}{o:cJ}(f:Fr h0 h F)(e:h'=h.set k o)(hk:k∈F∨h0.length<=k):Fr h0 h' F:=
 ⟨by subst e;simpa using f.len,fun id h1 h2=>by
  subst e
  rw[List.getElem?_set_ne (fun e=>by subst e;rcases hk with h|h; · exact h2 h
                                     ·omega)]
  exact f.out id h1 h2⟩
theorem Fr.alloc{h0 h h':aC}{F:List Nat}{o:cJ}(f:Fr h0 h F)(e:h'=h++[o]):Fr h0 h' F:=
 ⟨by subst e;have:=f.len;simp;omega,fun id h1 h2=>by
  subst e;rw[bp (by have:=f.len;omega)];exact f.out id h1 h2⟩
theorem Fr.oN{h0 h h':aC}{F F2:List Nat}(f:Fr h0 h F)(g:Fr h h' F2)(hF: ∀id∈F2,id∈F∨h0.length<=id):Fr h0 h' F:=
 ⟨bw f.len g.len,fun id h1 h2=>by
  rw[g.out id (by have:=f.len;omega) (fun hm=>by rcases hF id hm with h|h; · exact h2 h
                                                 ·omega)]
  exact f.out id h1 h2⟩
theorem Fr.mono{h0 h:aC}{F F2:List Nat}(f:Fr h0 h F)(hF: ∀id∈F,id∈F2∨h0.length<=id):Fr h0 h F2:=
 ⟨f.len,fun id h1 h2=>f.out id h1 fun hm=>by rcases hF id hm with h|h; · exact h2 h
                                             ·omega⟩
theorem ah.one{h:aC}{c:Chunk}(hc:c.P h)(hn:c.F.Nodup):ah h [c]:=by
 refine⟨fun i d hi=>?_,fun i j d e xl hi hj=>?_⟩
 ·cases i with
  |zero=>simp at hi;subst hi;exact⟨hc,hn⟩
  |succ i=>simp at hi
 ·cases i with
  |zero=>
   cases j with
   |zero=>exact absurd rfl xl
   |succ j=>simp at hj
  |succ i=>simp at hi
theorem ah.fr{h h':aC}{L:List Chunk}(s:ah h L)(i:Nat){c c':Chunk}(hi:L[i]?=some c)(g:Fr h h' c.F)(hc:c'.P h')(hF:c'.F=c.F):ah h' (L.set i c'):=
 s.oN i hi g.out hc (by rw[hF];exact(s.get' i c hi).2) fun id cq=>.inl (by rw[<-hF];exact cq)
theorem zH{A B:List af}{e:af}{i:Nat}(h:i=A.length):(A++e::B)[i]?=some e:=by
 subst h;rw[List.getElem?_append_right (aB _),Nat.sub_self];rfl
theorem Ug{A B:List af}{e e':af}{i:Nat}(h:i=A.length):(A++e::B).set i e'=A++e'::B:=by
 subst h;rw[List.set_append_right _ _ (aB _),Nat.sub_self];rfl
theorem ah.setRow{h h':aC}{L:List Chunk}(s:ah h L)(i:Nat){k sz idx:Nat}{A B:List af}{e e':af}(hi:L[i]?=some (.row k (.arr sz (A++e::B))))(hx:idx=A.length)(hh:h'=h.set k (.arr sz ((A++e::B).set idx e'))):
  ah h' (L.set i (.row k (.arr sz (A++e'::B)))):=by
   rw[Ug hx]at hh;exact s.set i hi hh
end Go.Am
namespace Go.Proofs.YtfepbikckfehlaaGreat
open Go Go.Am
variable{pr:bL}(hp:bV pr)
theorem mh{f:FuncId}(hM:fF f=Am.Mode.F)(args:List af)(h:aC):bN (du pr) (call (du pr)) f args h=call (du pr) f args h:=by
 have hm:(du pr).M f= .F:=hM;unfold bN;simp only[hm]
set_option maxRecDepth 100000
end Go.Proofs.YtfepbikckfehlaaGreat
set_option maxHeartbeats 4000000
namespace Go.Am
open Go
theorem ah.cut{h:aC}{L:List Chunk}{c c1 c2:Chunk}(s:ah h (c::L))(hF:c.F=c1.F++c2.F)(h1:c1.P h)(h2:c2.P h):ah h (c1::c2::L):=by
 have hn:=(s.get' 0 c rfl).2;rw[hF,List.nodup_append]at hn;obtain⟨n1,n2,n3⟩:=hn;have ha: ∀(j:Nat)(d:Chunk),L[j]?=some d-> ∀id∈c.F,id∉d.F:=fun j d hd=>s.apart 0 (j+1) c d (by omega) rfl (by simpa using hd);have hb: ∀(j:Nat)(d:Chunk),L[j]?=some d-> ∀id∈d.F,id∉c.F:=fun j d hd=>s.apart (j+1) 0 d c (by omega) (by simpa using hd) rfl;refine⟨fun i d hi=>?_,fun i j d e xl hi hj id cq hm=>?_⟩
 ·match i,hi with
  |0,hi=>simp at hi;subst hi;exact⟨h1,n1⟩
  |1,hi=>simp at hi;subst hi;exact⟨h2,n2⟩
  |i+2,hi=>exact s.get' (i+1) d (by simpa using hi)
 ·match i,j,hi,hj with
  |0,0,_,_=>exact xl rfl
  |1,1,_,_=>exact xl rfl
  |0,1,hi,hj=>simp at hi hj;subst hi hj;exact n3 id cq id hm rfl
  |1,0,hi,hj=>simp at hi hj;subst hi hj;exact n3 id hm id cq rfl
  |0,j+2,hi,hj=>simp at hi;subst hi;exact ha j e (by simpa using hj) id (by rw[hF];simp[cq]) hm
  |1,j+2,hi,hj=>simp at hi;subst hi;exact ha j e (by simpa using hj) id (by rw[hF];simp[cq]) hm
  |i+2,0,hi,hj=>simp at hj;subst hj;exact hb i d (by simpa using hi) id cq (by rw[hF];simp[hm])
  |i+2,1,hi,hj=>simp at hj;subst hj;exact hb i d (by simpa using hi) id cq (by rw[hF];simp[hm])
  |i+2,j+2,hi,hj=>exact s.apart (i+1) (j+1) d e (by omega) (by simpa using hi) (by simpa using hj) id cq hm
theorem ah.Zm{h h':aC}{L:List Chunk}{c c':Chunk}(s:ah h (c::L))(g:Fr h h' c.F)(hc:c'.P h')(hF:c'.F=c.F):ah h' (c'::L):=s.fr 0 rfl g hc hF
theorem ah.is{h:aC}{L:List Chunk}{c c':Chunk}(s:ah h (c::L))(hc:c'.P h)(hF:c'.F=c.F):ah h (c'::L):=s.Zm (Fr.refl h _) hc hF
end Go.Am
namespace Go.Proofs.YtfepbikckfehlaaGreat
open Go Go.Am
variable{pr:bL}(hp:bV pr)
set_option maxRecDepth 100000
theorem ah.tD{h:aC}{L:List Chunk}{d:ba}{ds:List ba}{vs:List af}{F:List Nat}(s:ah h (.dy (d::ds) vs F::L)): ∃v eo F1 F2,vs=v::eo/\F=F1++F2/\ah h (.cU d v F1:: .dy ds eo F2::L):=by
 have h0:bZ h (d::ds) vs F:=s.get 0 rfl;simp only[bZ]at h0;obtain⟨v,eo,F1,F2,rfl,rfl,h1,h2⟩:=h0;exact⟨v,eo,F1,F2,rfl,rfl,s.cut rfl h1 h2⟩
theorem ah.open{h:aC}{L:List Chunk}{sz:Nat}{xs:List ba}{v:af}{F:List Nat}(s:ah h (.cU (.s sz xs) v F::L)):(xs=[]/\(v= .nil∨v= .sl [])/\ah h L)∨ ∃id vs Fs,v= .own id 0 xs.length/\F=id::Fs/\ah h (.row id (.arr sz vs):: .dy xs vs Fs::L):=by
 have h0:bP h (.s sz xs) v F:=s.get 0 rfl;simp only[bP]at h0;rcases h0 with⟨h1,h2,h3⟩|⟨id,vs,Fs,rfl,h1,h2,rfl⟩
 ·exact .inl ⟨h1,h3,s.drop 0⟩
 ·exact .inr ⟨id,vs,Fs,rfl,rfl,s.cut rfl h1 h2⟩
theorem ah.close{h:aC}{L:List Chunk}{sz n id:Nat}{xs:List ba}{vs:List af}{Fs:List Nat}(s:ah h (.row id (.arr sz vs):: .dy xs vs Fs::L))(hn:n=xs.length):ah h (.cU (.s sz xs) (.own id 0 n) (id::Fs)::L):=by
 subst hn;refine s.merge (e:=.cU (.s sz xs) (.own id 0 xs.length) (id::Fs)) ?_ (fun j hj=>?_) ?_
 ·show bP h _ _ _;simp only[bP];exact .inr ⟨id,vs,Fs,rfl,s.get 0 rfl,s.get 1 rfl,rfl⟩
 ·rcases aW.1 hj with rfl|hj
  ·exact .inl (by simp[Chunk.row])
  ·exact .inr hj
 ·exact List.nodup_cons.2 ⟨fun hm=>s.apart 0 1 _ _ (by omega) rfl rfl id (by simp[Chunk.row]) hm,(s.get' 1 _ rfl).2⟩
theorem ah.snoc{h:aC}{L:List Chunk}{ds:List ba}{d:ba}{vs:List af}{v:af}{F F2:List Nat}(s:ah h (.cU d v F2:: .dy ds vs F::L)):ah h (.dy (ds++[d]) (vs++[v]) (F++F2)::L):=
 s.merge (e:=.dy (ds++[d]) (vs++[v]) (F++F2)) (jY (s.get 1 rfl) (nc (s.get 0 rfl))) (fun id cq=>(bu.1 cq).symm) s.IW
theorem FW(ys:List Int):ba.eQ (ys.map ba.i)=0:=by induction ys with|nil=>rfl|cons y ys ih=>simp[ba.eQ,ba.eX,ih]
theorem Item.eX(x:Item):x.d.eX=x.row.length:=by simp[Item.d,gq.d,ba.eX,ba.eQ,FW]
end Go.Proofs.YtfepbikckfehlaaGreat
set_option maxHeartbeats 4000000
namespace Go.Am
open Go
def Chunk.off(c d:Chunk):Prop:=∀id∈c.F,id∉d.F
theorem Chunk.O1{c d:Chunk}(h:c.off d):d.off c:=fun id h1 h2=>h id h2 h1
theorem ah.iff{h:aC}{L:List Chunk}:ah h L↔(∀c∈L,c.P h/\c.F.Nodup)/\L.Pairwise Chunk.off:=by
 constructor
 ·intro s;refine⟨fun c hc=>?_,List.pairwise_iff_getElem.2 fun i j hi hj xl=>?_⟩
  ·obtain⟨i,hi⟩:=List.getElem?_of_mem hc;exact s.get' i c hi
  ·exact s.apart i j _ _ (by omega) (au hi) (au hj)
 ·rintro ⟨h1,h2⟩
  rw[List.pairwise_iff_getElem]at h2;refine⟨fun i c hi=>h1 c (aV hi),fun i j c d xl hi hj=>?_⟩;obtain⟨o7,rfl⟩:=az.1 hi;obtain⟨SD,rfl⟩:=az.1 hj;rcases Nat.lt_or_gt_of_ne xl with h|h
  ·exact h2 i j o7 SD h
  ·exact Chunk.O1 (h2 j i SD o7 h)
theorem zI: ∀{Cs:List Chunk},(Cs.flatMap Chunk.F).Nodup->(∀c∈Cs,c.F.Nodup)/\Cs.Pairwise Chunk.off
 | [],_=>⟨fun c hc=>by simp at hc,.nil⟩
 |c::Cs,hn=>by
  rw[List.flatMap_cons,List.nodup_append]at hn;obtain⟨n1,n2,n3⟩:=hn;obtain⟨i1,i2⟩:=zI n2;refine⟨fun d hd=>?_,List.pairwise_cons.2 ⟨fun d hd id h1 h2=>n3 id h1 id (List.mem_flatMap.2 ⟨d,hd,h2⟩) rfl,i2⟩⟩;rcases aW.1 hd with rfl|hd
  ·exact n1
  ·exact i1 d hd
theorem ah.O3{h:aC}{L:List Chunk}{c:Chunk}(s:ah h (c::L))(Cs:List Chunk)(hF:c.F=Cs.flatMap Chunk.F)(hP: ∀d∈Cs,d.P h):ah h (Cs++L):=by
 obtain⟨h1,h2⟩:=ah.iff.1 s;obtain⟨h3,h4⟩:=List.pairwise_cons.1 h2;have hn:=(h1 c (by simp)).2;rw[hF]at hn;obtain⟨n1,n2⟩:=zI hn;refine ah.iff.2 ⟨fun d hd=>?_,List.pairwise_append.2 ⟨n2,h4,fun a ha b hb id hi=>h3 b hb id ?_⟩⟩
 ·rcases bu.1 hd with hd|hd
  ·exact⟨hP d hd,n1 d hd⟩
  ·exact h1 d (by simp[hd])
 ·rw[hF];exact List.mem_flatMap.2 ⟨a,ha,hi⟩
end Go.Am
set_option maxHeartbeats 4000000
namespace Go.Am
open Go
theorem zJ{f g:af->Option af}(h: ∀x a,f x=some a->g x=some a): ∀(l r:List af),cp f l=some r->cp g l=some r
 | [],r,e=>e
 |x::xs,r,e=>by
  simp only[cp]at e⊢
  cases hx:f x with
  |none=>simp[hx]at e
  |some a=>
   cases yl:cp f xs with
   |none=>simp[hx,yl]at e
   |some as2=>
    simp only[hx,yl]at e;simp only[h x a hx,zJ h xs as2 yl];exact e
theorem Ma(h:aC): ∀(n:Nat)(v a:af),bS [] n v=some a->bS h n v=some a:=by
 intro n
 induction n with
 |zero=>intro v a e;cases e
 |succ n ih=>
  intro v a e;have hm:=zJ ih;cases v
  case own id st len=>simp[bS]at e
  case ptr id i off=>simp[bS]at e
  case map id=>simp[bS]at e
  case agg cs=>
   simp only[bS,ai]at e⊢;obtain⟨r,h1,h2⟩:=e;exact⟨r,hm _ _ h1,h2⟩
  case dX cs=>
   simp only[bS,ai]at e⊢;obtain⟨r,h1,h2⟩:=e;exact⟨r,hm _ _ h1,h2⟩
  case func fn x y=>
   simp only[bS]at e⊢
   cases h1:cp (bS [] n) x with
   |none=>simp[h1]at e
   |some x'=>
    cases h2:cp (bS [] n) y with
    |none=>simp[h1,h2]at e
    |some y'=>
     simp only[h1,h2]at e;simp only[hm _ _ h1,hm _ _ h2];exact e
  case iface t v=>
   simp only[bS,ai]at e⊢;obtain⟨r,h1,h2⟩:=e;exact⟨r,ih _ _ h1,h2⟩
  all_goals exact e
theorem wg(h:aC){l r:List af}(e:cj [] l=some r):cj h l=some r:=zJ (Ma h 4194304) l r e
theorem bm{h:aC}{a a':af}{l l':List af}(ha:snap h a=some a')(hl:cj h l=some l'):cj h (a::l)=some (a'::l'):=by
 unfold cj at hl⊢;simp only[cp,ha,hl]
theorem dc(h:aC):cj h []=some []:=rfl
end Go.Am
namespace Go.Proofs.YtfepbikckfehlaaGreat
open Go Go.Am
theorem dm.here{pr:bL}{f:FuncId}{args cH:List af}{res:af}{h:aC}(hr:dm pr f cH res)(hs:cj h args=Option.some cH)(hi:cj [] cH=Option.some cH)(aN:res.isScalar=true)(hM:fF f=Am.Mode.P:=by rfl):
  bN (du pr) (call (du pr)) f args h=Option.some (.ret res h):=by
   cases hn:cj [] args with
   |none=>exact hr.frozen hn hs hi aN hM
   |some as2=>
    have:=wg h hn;rw[hs]at this;cases this
    exact hr.lE hn hi hM h
def qS(sz:Nat)(h:aC)(xs:List ba)(v:af)(F:List Nat):Prop:=bP h (.s sz xs) v F/\(v= .nil∨ ∃id,v= .own id 0 xs.length)
def _root_.Go.Am.Chunk.iA(sz:Nat)(xs:List ba)(v:af)(F:List Nat):Chunk:=⟨F,fun h=>qS sz h xs v F,fun h h' hp hf=>⟨bP.frame hp.1 hf,hp.2⟩,fun h hp=>bP.lt hp.1⟩
theorem ah.j7{h:aC}{L:List Chunk}(sz:Nat)(s:ah h L):ah h (.iA sz [] .nil []::L):=
 s.more (c:=.iA sz [] .nil []) (List.prefix_refl _) (by show qS _ _ _ _ _;exact⟨by simp[bP],.inl rfl⟩) (by simp[Chunk.iA]) (by simp[Chunk.iA])
theorem ah.dv{h:aC}{L:List Chunk}{sz:Nat}{xs:List ba}{v:af}{F:List Nat}(s:ah h (.iA sz xs v F::L)):ah h (.cU (.s sz xs) v F::L):=
 s.is (c':=.cU (.s sz xs) v F) (show qS _ _ _ _ _ from s.get 0 rfl).1 rfl
theorem ah.uK{h:aC}{L:List Chunk}{sz:Nat}{xs:List ba}{v:af}{F:List Nat}(s:ah h (.iA sz xs v F::L)):
  (xs=[]/\v= .nil/\ah h L)∨ ∃id vs Fs,v= .own id 0 xs.length/\ah h (.row id (.arr sz vs):: .dy xs vs Fs::L):=by
   have h0:qS sz h xs v F:=s.get 0 rfl;obtain⟨h1,h2⟩:=h0;rcases ah.open (ah.dv s)with⟨g1,g2,g3⟩|⟨id,vs,Fs,rfl,g2,g3⟩
   ·rcases h2 with rfl|⟨id,rfl⟩
    ·exact .inl ⟨g1,rfl,g3⟩
    ·rcases g2 with g2|g2<;>cases g2
   ·exact .inr ⟨id,vs,Fs,rfl,g3⟩
theorem ah.iV{h:aC}{L:List Chunk}{sz n id:Nat}{xs:List ba}{vs:List af}{Fs:List Nat}(s:ah h (.row id (.arr sz vs):: .dy xs vs Fs::L))(hn:n=xs.length):ah h (.iA sz xs (.own id 0 n) (id::Fs)::L):=by
 have s1:=ah.close s hn;exact s1.is (c':=.iA sz xs (.own id 0 n) (id::Fs)) ⟨s1.get 0 rfl,.inr ⟨id,by rw[hn]⟩⟩ rfl
theorem jM{h:aC}{B:List Chunk}{sz:Nat}{xs:List ba}{d:ba}{v w:af}{F Fw:List Nat}{K:af->aC->Prop}(S:ah h (.iA sz xs v F:: .cU d w Fw::B))(hl:xs.length+1<=br)
  (hK: ∀k h' F',ah h' (.iA sz (xs++[d]) (.own k 0 (xs.length+1)) F'::B)->K (.own k 0 (xs.length+1)) h'):ID h sz v [w] K:=by
   rcases ah.uK S with⟨rfl,rfl,S1⟩|⟨id,vs,Fs,rfl,S1⟩
   ·refine .inr ⟨by simp,by simp[br],fun k h' e1 e2=>?_⟩;have S2:=S1.alloc e1 e2;have S3:=(S2.swap.more (c:=.dy [] [] []) (List.prefix_refl _) (by show bZ _ _ _ _;simp[bZ]) (by simp[Chunk.dy]) (by simp[Chunk.dy])).swap;have S4:=(ah.snoc S3).swap;exact hK k h' _ (ah.iV S4 rfl)
   ·have wh:vs.length=xs.length:=gb (S1.get 1 rfl);refine⟨vs,S1.row 0 rfl,rfl,by omega,.inr ⟨by simp,by simpa using hl,fun k h' e1 e2=>?_⟩⟩;rw[show vs.take xs.length=vs by rw[List.take_of_length_le (by omega)]]at e2⊢;have S2:=S1.move 0 rfl (by simpa using e1) e2;dsimp only[List.eraseIdx]at S2;have S3:=S2.swap.front 2 rfl;dsimp only[List.eraseIdx]at S3;have S4:=(ah.snoc S3).swap;have S5:=ah.iV (n:=xs.length+1) S4 (by simp);have:=hK k h' _ S5;rw[List.length_append,wh];exact this
def tE(pr:bL)(f:FuncId)(args:List af)(sz:Nat)(xs:List ba):Prop:=∃v h1 F,call (du pr) f args []=some (.ret v h1)/\qS sz h1 xs v F/\F.Nodup
theorem tE.Zl{pr:bL}{f:FuncId}{args:List af}{sz:Nat}{xs:List ba}(hr:tE pr f args sz xs):kC pr f args (.s sz xs):=by
 obtain⟨v,h1,F,hc,ho,hn⟩:=hr;exact⟨v,h1,F,hc,ho.1,hn⟩
theorem cI{pr:bL}{h:aC}{L:List Chunk}{f:FuncId}{args cH:List af}{sz:Nat}{xs:List ba} [hu:uI xs]{K:dz->Prop}(S:ah h L)(hr:tE pr f cH sz xs)(hM:fF f=Am.Mode.N)(hs:cj h args=some cH)
  (hK: ∀v hh F,ah hh (.iA sz xs v F::L)->K (.ret v hh)): ∃r,bN (du pr) (call (du pr)) f args h=some r/\K r:=by
   obtain⟨v,h1,F,hc,⟨ho,hv⟩,hn⟩:=hr;obtain⟨g1,g2,g3⟩:=(v8 (h:=h) _).1 (.s sz xs) v F (aB _) (by simp only[ba.KA,hu.ok]) ho;have hm:(du pr).M f= .N:=hM;refine⟨.ret (hZ h.length v) (h++h1.map (cJ.keep h.length)),?_,hK _ _ (F.map (· +h.length)) (S.more (c:=.iA sz xs (hZ h.length v) (F.map (· +h.length))) (List.prefix_append _ _) ⟨g1,?_⟩ (jX _ hn) fun id cq=>?_)⟩
   ·unfold bN;simp only[hm,hs,hc,KB g3 g2,if_true,Fm g3]
   ·rcases hv with rfl|⟨id,rfl⟩
    ·exact .inl rfl
    ·exact .inr ⟨id+h.length,rfl⟩
   ·obtain⟨y,_,rfl⟩:=bj.1 cq;omega
set_option maxRecDepth 100000 in
theorem Dj{pr:bL}(hp:bV pr){f:FuncId}{args:List af}{sz:Nat}{xs:List ba}(hn:plain f=true)(hw:Fe (du pr) f args [] (fun r=>∃v h F,r= .ret v h/\qS sz h xs v F/\F.Nodup)):tE pr f args sz xs:=by
 obtain⟨r,hr,v,h,F,rfl,h1,h2⟩:=lq (hp.out f hn) hw;exact⟨v,h,F,hr,h1,h2⟩
theorem ef{cs:List af}{sz:Nat}(hl:cs.length=sz)(h:cs.all af.bE=true):[af.agg cs].all (hU sz)=true:=by
 simp only[List.all_cons,List.all_nil,Bool.and_true,hU,af.cells,hl,h,beq_self_eq_true,aX]
theorem cQ{v:af}(hv:v.cells=[v])(h:v.bE=true):[v].all (hU 1)=true:=by
 simp[hU,hv,h]
theorem gA{pr:bL}{h:aC}{L:List Chunk}{f:FuncId}{args cH:List af}{ds:List ba} [hu:uI ds]{K:dz->Prop}(S:ah h L)(hr:lu pr f cH ds)(hM:fF f=Am.Mode.N)(hs:cj h args=some cH)
  (hK: ∀vs hh F,ah hh (.dy ds vs F::L)->K (.ret (.dX vs) hh)): ∃r,bN (du pr) (call (du pr)) f args h=some r/\K r:=by
   obtain⟨vs,hh,F,hc,pe,ho,hn,hd⟩:=hr.at (h:=h) hM hs;exact⟨_,hc,hK vs hh F (S.more (c:=.dy ds vs F) pe ho hn hd)⟩
theorem ah.two{h:aC}{L:List Chunk}{d1 d2:ba}{vs:List af}{F:List Nat}(S:ah h (.dy [d1,d2] vs F::L)): ∃v1 v2 F1 F2,vs=[v1,v2]/\ah h (.cU d1 v1 F1:: .cU d2 v2 F2::L):=by
 obtain⟨v1,vs1,F1,G1,rfl,rfl,S1⟩:=ah.tD S;obtain⟨v2,vs2,F2,G2,rfl,rfl,S2⟩:=ah.tD S1.swap;have h0:bZ h [] vs2 G2:=S2.get 1 rfl;simp only[bZ]at h0;obtain⟨rfl,rfl⟩:=h0;exact⟨v1,v2,F1,F2,rfl,(S2.drop 1).swap⟩
theorem ah.jZ{h:aC}{L:List Chunk}{d1:ba}{b:Bool}{vs:List af}{F:List Nat}(S:ah h (.dy [d1,.b b] vs F::L)): ∃v1 F1,vs=[v1,.bool b]/\ah h (.cU d1 v1 F1::L):=by
 obtain⟨v1,v2,F1,F2,rfl,S1⟩:=ah.two S;have h0:bP h (.b b) v2 F2:=S1.get 1 rfl;unfold bP at h0;obtain⟨rfl,rfl⟩:=h0;exact⟨v1,F1,rfl,S1.drop 1⟩
theorem ah.xz{h:aC}{L:List Chunk}{d1:ba}{n:Int}{vs:List af}{F:List Nat}(S:ah h (.dy [d1,.i n] vs F::L)): ∃v1 F1,vs=[v1,i64 n]/\ah h (.cU d1 v1 F1::L):=by
 obtain⟨v1,v2,F1,F2,rfl,S1⟩:=ah.two S;have h0:bP h (.i n) v2 F2:=S1.get 1 rfl;unfold bP at h0;obtain⟨rfl,rfl⟩:=h0;exact⟨v1,F1,rfl,S1.drop 1⟩
end Go.Proofs.YtfepbikckfehlaaGreat
namespace Go.Am
open Go
def Dk(P:Program)(M:FuncId->Mode)(pm:Nat->Nat->Nat->Option (List Nat))(skip:Nat->Bool):Nat->List Func->Bool
 |_,[]=>true
 |n,fn::r=>(skip n||(match fn.body with
  |some c=>codeOk P M pm fn.ntmps c
  |none=>true))&&Dk P M pm skip (n+1) r
theorem FX{P:Program}{M:FuncId->Mode}{pm:Nat->Nat->Nat->Option (List Nat)}{skip:Nat->Bool}: ∀(l:List Func)(n:Nat),Dk P M pm skip n l=true-> ∀(i:Nat)(fn:Func)(c:Code),l[i]?=some fn->fn.body=some c->skip (n+i)=false->codeOk P M pm fn.ntmps c=true:=by
 intro l
 induction l with
 |nil=>intro n _ i fn c h;simp at h
 |cons g r ih=>
  intro n h i fn c hi hb hs;simp only[Dk,aj]at h
  cases i with
  |zero=>
   simp at hi;subst hi;have:=h.1;rw[Nat.add_zero]at hs;rw[hb,hs,Bool.false_or]at this
   exact this
  |succ i=>exact ih (n+1) h.2 i fn c (by simpa using hi) hb (by rw[show n+1+i=n+(i+1) by omega];exact hs)
end Go.Am
namespace Go.Proofs.YtfepbikckfehlaaGreat
open Go Go.Am
set_option maxRecDepth 100000 in
theorem WI:Dk Tryz.prog fF pms bad 0 Tryz.prog.funcs.toList=true:=by kernel_rfl
set_option maxRecDepth 100000 in
theorem Dl{pr:bL}(fC: ∀f,bad f=true->pr f≠none)(SZ: ∀f p args h r,pr f=some p->p args h=some r-> ∀(E:Env)(w:World)(vs:Array Value),fW Tryz.prog f=true->dL E h w->Full E h->sE gV E.S w->fS E w args vs->Calls Tryz.prog f vs w (uo E h w r)):uA (du pr) where
 mixed:=by kernel_rfl
 code:=fun f fn c hp hf hb=>FX _ 0 WI f fn c (by simpa[du]using hf) hb (by rw[bg];cases hx:bad f with|false=>rfl|true=>exact absurd hp (fC f hx))
 Oq:=SZ
noncomputable def cf:dS:=du QD
theorem KH(f:FuncId)(h:bad f=true):QD f≠none:=by unfold QD;rw[h];exact fun e=>by cases e
theorem FY{f:FuncId}{p:List af->aC->Option dz}(h:QD f=some p)(args:List af)(hp:aC):p args hp=none:=by
 unfold QD at h
 cases hb:bad f with
 |false=>rw[hb]at h;cases h
 |true=>rw[hb]at h;cases h;rfl
theorem B6{f:FuncId}(h:plain f=true):QD f=none:=by
 unfold plain at h;simp only[aj,Bool.not_eq_true']at h;unfold QD;rw[h.2];rfl
theorem ok0:bV QD:=⟨fun _ h=>B6 h⟩
set_option maxRecDepth 100000 in
theorem O4:uA cf:=Dl KH fun _ _ _ _ _ h h2=>by rw[FY h]at h2;cases h2
end Go.Proofs.YtfepbikckfehlaaGreat

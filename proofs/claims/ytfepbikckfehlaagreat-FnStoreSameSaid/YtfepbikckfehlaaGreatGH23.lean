/- Lists of one's own that grow. No Go here. -/
import Derived.Test.YtfepbikckfehlaaGreatGH22
import Derived.Test.YtfepbikckfehlaaGreatGH20
set_option linter.unusedVariables false
set_option linter.unusedSimpArgs false
set_option maxHeartbeats 4000000
namespace Go.Proofs.YtfepbikckfehlaaGreat
open Go Go.Am
variable{pr:bW}(hp:cF pr)
set_option maxRecDepth 100000
structure Item where
 row:List Int
 w:Int
def Item.enc(x:Item):af:=.agg [.sl (x.row.map i64),i64 x.w]
def ij(z:List Item):Prop:=z.length<=dB/\ ∀x∈z,x.row.length<=dB
def Pk(w:Int):Bool:=!decide (w< -10000)&&(!decide (w>10000)&& !(w==0))
def DJ:Option (List Int)->List Item->Bool
 |_,[]=>true
 |p,x::xs=>(o8 x.row&&(Pk x.w&&(match p with|none=>true|some q=>fl q x.row)))&&DJ (some x.row) xs
def dS(z:List Item):Bool:=decide (z.length<=100)&&DJ none z
def mY(z:List Item):Option (List Int):=z.getLast?.map Item.row
theorem nY{z:List Item}{j:Nat}(h:j<z.length):mY (z.take (j+1))=some z[j].row:=by
 unfold mY;rw[show z.take (j+1)=z.take j++[z[j]] by rw[List.take_add_one];simp[h],List.getLast?_concat];rfl
theorem uX(hp:cF pr)(z:List Item)(hz:ij z):dK pr 11 [.sl (z.map Item.enc)] (.bool (dS z)):=by
 obtain⟨hl,hr⟩:=hz;refine ff hp rfl rfl ?_;have S:=aj.nil [];conv=>whnf
 refine ae (fun h0=>?_) (fun h0=>?_)
 ·conv=>whnf
  exact br (by have: ¬z.length<=100:=by simp at h0;omega
               simp[dS,this])
 have hz:dS z=DJ none z:=by
  have:z.length<=100:=by simp at h0;omega
  simp[dS,this]
 rw[hz];clear hz h0;conv=>whnf
 refine iv (fun m tm hp=>∃(j:Nat),j+m=z.length/\tm 10=i64 (j:Nat)/\(DJ none z=DJ (mY (z.take j)) (z.drop j))) (fun m tm hq bG hI=>?_) (z.length) ⟨0,by simp,(by first|rfl|kernel_rfl|simp),(by simp[mY])⟩;obtain⟨j,hj,sq,aF⟩:=hI;have k0:=bG 0 (by kernel_rfl);conv at k0=>rhs;whnf
 rw[<-aR k0];have k8:=bG 8 (by kernel_rfl);conv at k8=>rhs;whnf
 rw[<-aR k8];have k9:=bG 9 (by kernel_rfl);conv at k9=>rhs;whnf
 rw[<-aR k9];rw[<-aR sq];clear bG k0 k8 k9 sq;have S:aj hq []:=aj.nil hq;conv=>whnf
 refine ae (fun h1=>?_) (fun h1=>?_)
 ·have bp:j<z.length:=by simpa using h1
  have fF:=nY bp;have dw:(z.map Item.enc)[((j:Nat):Int).toNat]?=some (Item.enc z[j]):=by rw[aaa];simp[bp]
  have eQ:=hr z[j] (aac bp);rw[aaf bp]at aF;simp only[DJ]at aF
  cases j with
  |zero=>
   have jf:mY (z.take 0)=none:=by simp[mY]
   rw[jf]at aF;generalize z[0]=x at dw eQ aF fF;obtain⟨row,w⟩:=x;have h2:=Ie hp row eQ;simp only[Pk]at aF;conv=>whnf
   refine⟨_,dw,by omega,rfl,?_⟩
   iterate 14
    all_goals(try(conv=>whnf))
    all_goals(first|(intro iK cp ee bf;replace S:=S.alloc ee bf)|(refine aC (S.row 0 rfl) ?_)|(refine aC (S.row 1 rfl) ?_)|(refine aC (S.row 2 rfl) ?_)|(refine aC (S.row 3 rfl) ?_)|(refine aC (S.row 4 rfl) ?_)|(refine⟨_,rfl,rfl,rfl,.inl ⟨_,S.row 0 rfl,rfl,?_⟩⟩;(conv=>whnf);intro cp bf;replace S:=S.w0 bf)|(refine⟨_,rfl,rfl,rfl,.inl ⟨_,S.row 1 rfl,rfl,?_⟩⟩;(conv=>whnf);intro cp bf;replace S:=S.w1 bf)|(refine⟨_,rfl,rfl,rfl,.inl ⟨_,S.row 2 rfl,rfl,?_⟩⟩;(conv=>whnf);intro cp bf;replace S:=S.w2 bf)|(refine⟨_,rfl,rfl,rfl,.inl ⟨_,S.row 3 rfl,rfl,?_⟩⟩;(conv=>whnf);intro cp bf;replace S:=S.w3 bf)|(refine⟨_,rfl,rfl,rfl,.inl ⟨_,S.row 4 rfl,rfl,?_⟩⟩;(conv=>whnf);intro cp bf;replace S:=S.w4 bf)|(refine ae (fun hb=>?_) (fun hb=>?_))|(refine⟨_,h2 _,?_⟩)|skip)
   all_goals first
    |exact br (by clear dw fF h2 hr eQ;simp_all)
    |exact⟨m-1,by omega,1,by omega,aP 0 (by omega),by rw[fF,aF];clear dw fF h2 hr eQ aF;simp_all⟩
  |succ i=>
   have jf:=nY (z:=z) (j:=i) (by omega);rw[jf]at aF;have hw:IntKind.i64.wrap (((i+1:Nat):Int)-1)=(i:Nat):=by rw[aaC];simp[dB]at hl;omega
   have sm:(z.map Item.enc)[(IntKind.i64.wrap (((i+1:Nat):Int)-1)).toNat]?=some (Item.enc z[i]):=by rw[hw,aaa];simp[show i<z.length by omega]
   have wG:=hr z[i] (aac (by omega));generalize z[i+1]=x at dw eQ aF fF;generalize z[i]=y at sm wG aF jf;obtain⟨row,w⟩:=x;obtain⟨Ih,w2⟩:=y;have h2:=Ie hp row eQ;have h3:=KL hp Ih row wG eQ;simp only[Pk]at aF;conv=>whnf
   refine⟨_,dw,by omega,rfl,?_⟩
   iterate 18
    all_goals(try(conv=>whnf))
    all_goals(first|(refine⟨_,sm,by omega,rfl,?_⟩)|(intro iK cp ee bf;replace S:=S.alloc ee bf)|(refine aC (S.row 0 rfl) ?_)|(refine aC (S.row 1 rfl) ?_)|(refine aC (S.row 2 rfl) ?_)|(refine aC (S.row 3 rfl) ?_)|(refine aC (S.row 4 rfl) ?_)|(refine⟨_,rfl,rfl,rfl,.inl ⟨_,S.row 0 rfl,rfl,?_⟩⟩;(conv=>whnf);intro cp bf;replace S:=S.w0 bf)|(refine⟨_,rfl,rfl,rfl,.inl ⟨_,S.row 1 rfl,rfl,?_⟩⟩;(conv=>whnf);intro cp bf;replace S:=S.w1 bf)|(refine⟨_,rfl,rfl,rfl,.inl ⟨_,S.row 2 rfl,rfl,?_⟩⟩;(conv=>whnf);intro cp bf;replace S:=S.w2 bf)|(refine⟨_,rfl,rfl,rfl,.inl ⟨_,S.row 3 rfl,rfl,?_⟩⟩;(conv=>whnf);intro cp bf;replace S:=S.w3 bf)|(refine⟨_,rfl,rfl,rfl,.inl ⟨_,S.row 4 rfl,rfl,?_⟩⟩;(conv=>whnf);intro cp bf;replace S:=S.w4 bf)|(refine ae (fun hb=>?_) (fun hb=>?_))|(refine⟨_,h2 _,?_⟩)|(refine⟨_,h3 _,?_⟩)|skip)
   all_goals first
    |exact br (by clear dw sm fF h2 h3 hr eQ wG hw jf;simp_all)
    |exact⟨m-1,by omega,i+1+1,by omega,aP (i+1) (by simp[dB]at hl;omega),by rw[fF,aF];clear dw sm fF h2 h3 hr eQ wG aF hw jf;simp_all⟩
 ·have bp:j=z.length:=by have: ¬j<z.length:=by simpa using h1
                         omega
  subst bp;rw[aal]at aF;conv=>whnf
  exact br (by rw[aF];rfl)
end Go.Proofs.YtfepbikckfehlaaGreat
set_option maxHeartbeats 4000000
namespace Go.Am
open Go
theorem aj.merge{h:aG}{L:List Chunk}{c d e:Chunk}(s:aj h (c::d::L))(he:e.P h)(hF: ∀id∈e.F,id∈c.F∨id∈d.F)(hn:e.F.Nodup):aj h (e::L):=by
 refine⟨fun i x hi=>?_,fun i j x y yP hi hj id dm=>?_⟩
 ·cases i with
  |zero=>simp at hi;subst hi;exact⟨he,hn⟩
  |succ i=>exact s.get' (i+2) x (by simpa using hi)
 ·cases i with
  |zero=>
   simp at hi;subst hi
   cases j with
   |zero=>exact absurd rfl yP
   |succ j=>
    rcases hF id dm with h1|h1
    ·exact s.apart 0 (j+2) c y (by omega) rfl (by simpa using hj) id h1
    ·exact s.apart 1 (j+2) d y (by omega) rfl (by simpa using hj) id h1
  |succ i=>
   cases j with
   |zero=>
    simp at hj;subst hj;intro hm;rcases hF id hm with h1|h1
    ·exact s.apart (i+2) 0 x c (by omega) (by simpa using hi) rfl id dm h1
    ·exact s.apart (i+2) 1 x d (by omega) (by simpa using hi) rfl id dm h1
   |succ j=>exact s.apart (i+2) (j+2) x y (by omega) (by simpa using hi) (by simpa using hj) id dm
theorem uY{F G:List Nat}(h1:F.Nodup)(h2:G.Nodup)(h3: ∀id∈F,id∉G):(F++G).Nodup:=by
 rw[List.nodup_append];exact⟨h1,h2,fun a ha b hb e=>h3 a ha (e▸hb)⟩
theorem aj.KN{h:aG}{L:List Chunk}{c d:Chunk}(s:aj h (c::d::L)):(d.F++c.F).Nodup:=uY (s.get' 1 d rfl).2 (s.get' 0 c rfl).2 (s.apart 1 0 d c (by omega) rfl rfl)
theorem aj.swap{h:aG}{L:List Chunk}{c d:Chunk}(s:aj h (c::d::L)):aj h (d::c::L):=by
 have key: ∀i x,(d::c::L)[i]?=some x-> ∃j,(c::d::L)[j]?=some x/\(i=0->j=1)/\(i=1->j=0)/\(2<=i->j=i):=by
  intro i x hi
  match i,hi with
  |0,hi=>exact⟨1,by simpa using hi,by simp,by simp,by simp⟩
  |1,hi=>exact⟨0,by simpa using hi,by simp,by simp,by simp⟩
  |i+2,hi=>exact⟨i+2,by simpa using hi,by simp,by omega,by simp⟩
 refine⟨fun i x hi=>?_,fun i j x y yP hi hj=>?_⟩
 ·obtain⟨k,hk,_⟩:=key i x hi;exact s.get' k x hk
 ·obtain⟨k,hk,k0,k1,k2⟩:=key i x hi;obtain⟨l,hl,l0,l1,l2⟩:=key j y hj;refine s.apart k l x y ?_ hk hl;rcases Nat.lt_or_ge i 2 with h1|h1<;>rcases Nat.lt_or_ge j 2 with h2|h2
  ·rcases(by omega:i=0∨i=1)with h3|h3<;>rcases(by omega:j=0∨j=1)with h4|h4<;>first|omega|(have:=k0 h3;have:=l1 h4;omega)|(have:=k1 h3;have:=l0 h4;omega)
  ·have:=l2 h2;rcases(by omega:i=0∨i=1)with h3|h3
   ·have:=k0 h3;omega
   ·have:=k1 h3;omega
  ·have:=k2 h1;rcases(by omega:j=0∨j=1)with h3|h3
   ·have:=l0 h3;omega
   ·have:=l1 h3;omega
  ·have:=k2 h1;have:=l2 h2;omega
end Go.Am
namespace Go.Proofs.YtfepbikckfehlaaGreat
open Go Go.Am
variable{pr:bW}(hp:cF pr)
def YP:af:=.agg [i64 0,i64 0,i64 0,.bool false,i64 0,i64 0,i64 0,i64 0,i64 0,i64 0,i64 0,i64 0,.nil,i64 0,i64 0,.nil,i64 0,i64 0,.nil]
theorem kh.cell{α:Type}{f:α->af}{sz:Nat}{h:aG}{xs:List α}{v:af}{F:List Nat}(ho:kh f sz h xs v F):v.cells=[v]/\v.bQ=true:=by
 rcases ho with⟨_,_,rfl|rfl⟩|⟨id,rfl,_,_⟩<;>exact⟨rfl,rfl⟩
theorem pN.cell{h:aG}{ps:List aA}{D:af}{F:List Nat}(ho:pN h ps D F):D.cells=[D]/\D.bQ=true:=by
 rcases ho with⟨_,rfl,_⟩|⟨id,vs,Fs,rfl,_⟩<;>exact⟨rfl,rfl⟩
theorem Ii{C:af}(h:C.bQ=true):[C].all af.bQ=true:=by simp[h]
theorem Ij{au n:Int}{aD:Test}{C:af}{a b:Int}{K:af}{agg col:Int}{D:af}(h1:C.bQ=true)(h2:K.bQ=true)(h3:D.bQ=true):(nb au n aD C a b K agg col D).cells.all af.bQ=true:=by
 simp only[nb,af.cells,abi,h1,h2,h3,List.all_nil,Bool.and_true];rfl
set_option maxRecDepth 100000
end Go.Proofs.YtfepbikckfehlaaGreat
set_option maxHeartbeats 4000000
namespace Go.Proofs.YtfepbikckfehlaaGreat
open Go Go.Am
variable{pr:bW}(hp:cF pr)
set_option maxRecDepth 100000
theorem lh.of{h:aG}{au n:Int}{aD:Test}{cells:List Cell}{a b:Int}{aq:List Int}{agg col:Int}{ao:List aA}{C K D:af}{Fc Fk Fd:List Nat}
  (h1:kh Cell.enc 4 h cells C Fc) (h2:kh i64 1 h aq K Fk) (h3:pN h ao D Fd):lh h (.mk au n aD cells a b aq agg col ao) (nb au n aD C a b K agg col D) (Fc++(Fk++Fd)):=
   lX.2 ⟨C,K,D,Fc,Fk,Fd,rfl,h1,h2,h3,rfl⟩
end Go.Proofs.YtfepbikckfehlaaGreat
set_option maxHeartbeats 4000000
namespace Go.Am
open Go
theorem aj.sY{h:aG}: ∀{L:List Chunk},aj h L->(L.flatMap Chunk.F).Nodup
 | [],_=>by simp
 |c::L,s=>by
  rw[List.flatMap_cons,List.nodup_append];refine⟨(s.get' 0 c rfl).2,aj.sY (s.drop 0),fun a ha b hb e=>?_⟩;subst e;obtain⟨d,hd,hm⟩:=List.mem_flatMap.1 hb;obtain⟨i,hi⟩:=List.getElem?_of_mem hd;exact s.apart 0 (i+1) c d (by omega) rfl (by simpa using hi) a ha hm
end Go.Am
namespace Go.Proofs.YtfepbikckfehlaaGreat
open Go Go.Am
variable{pr:bW}(hp:cF pr)
set_option maxRecDepth 100000
theorem cq.cell{h:aG}{sz:Nat}{xs:List bg}{v:af}{F:List Nat}(ho:cq h (.s sz xs) v F):v.cells=[v]/\v.bQ=true:=by
 simp only[cq]at ho;rcases ho with⟨_,_,rfl|rfl⟩|⟨id,vs,Fs,rfl,_⟩<;>exact⟨rfl,rfl⟩
theorem fO{h:aG}{vs:List af}{F:List Nat}:fy h [] vs F↔vs=[]/\F=[]:=by simp only[fy]
theorem pc{h:aG}{x:Int}{ds:List bg}{vs:List af}{F:List Nat}:fy h (.i x::ds) vs F↔ ∃fx,vs=i64 x::fx/\fy h ds fx F:=by
 simp only[fy,cq];constructor
 ·rintro ⟨v,fx,F1,F2,rfl,rfl,⟨rfl,rfl⟩,h2⟩
  exact⟨fx,rfl,h2⟩
 ·rintro ⟨fx,rfl,h2⟩
  exact⟨_,fx,[],F,rfl,rfl,⟨rfl,rfl⟩,h2⟩
theorem l6{h:aG}{sz:Nat}{xs ds:List bg}{vs:List af}{F:List Nat}:fy h (.s sz xs::ds) vs F↔ ∃v fx F1 F2,vs=v::fx/\F=F1++F2/\cq h (.s sz xs) v F1/\fy h ds fx F2:=by
 rw[fy];constructor
 ·rintro ⟨v,fx,F1,F2,rfl,rfl,h1,h2⟩
  exact⟨v,fx,F1,F2,by rw[h1.cell.1];rfl,rfl,h1,h2⟩
 ·rintro ⟨v,fx,F1,F2,rfl,rfl,h1,h2⟩
  exact⟨v,fx,F1,F2,by rw[h1.cell.1];rfl,rfl,h1,h2⟩
theorem E5{h:aG}{es ds:List bg}{vs:List af}{F:List Nat}:fy h (.g es::ds) vs F↔ ∃us fx F1 F2,vs=us++fx/\F=F1++F2/\fy h es us F1/\fy h ds fx F2:=by
 rw[fy];constructor
 ·rintro ⟨v,fx,F1,F2,rfl,rfl,h1,h2⟩
  simp only[cq]at h1;obtain⟨us,rfl,h1⟩:=h1;exact⟨us,fx,F1,F2,rfl,rfl,h1,h2⟩
 ·rintro ⟨us,fx,F1,F2,rfl,rfl,h1,h2⟩
  exact⟨.agg us,fx,F1,F2,rfl,rfl,by simp only[cq];exact⟨us,rfl,h1⟩,h2⟩
def bL(au n:Int)(aD:Test)(C:af)(a b:Int)(K:af)(agg col:Int)(D:af)(r:List af):List af:=
 i64 au::i64 n::i64 aD.au:: .bool aD.no::i64 aD.l.au::i64 aD.l.a::i64 aD.l.b::i64 aD.l.n::i64 aD.r.au::i64 aD.r.a::i64 aD.r.b::i64 aD.r.n::
  C::i64 a::i64 b::K::i64 agg::i64 col::D::r
theorem QY{h:aG}{au n:Int}{aD:Test}{cells:List Cell}{a b:Int}{aq:List Int}{agg col:Int}{ao:List aA}{ds:List bg}{vs:List af}{F:List Nat}:
  fy h (.p (.mk au n aD cells a b aq agg col ao)::ds) vs F↔ ∃C K D Fc Fk Fd fx F2,vs=bL au n aD C a b K agg col D fx/\kh Cell.enc 4 h cells C Fc/\kh i64 1 h aq K Fk/\pN h ao D Fd/\F=(Fc++(Fk++Fd))++F2/\fy h ds fx F2:=by
   rw[fy];simp only[cq];constructor
   ·rintro ⟨v,fx,F1,F2,rfl,rfl,h1,h2⟩
    rw[lX]at h1;obtain⟨C,K,D,Fc,Fk,Fd,rfl,h3,h4,h5,rfl⟩:=h1;exact⟨C,K,D,Fc,Fk,Fd,fx,F2,rfl,h3,h4,h5,rfl,h2⟩
   ·rintro ⟨C,K,D,Fc,Fk,Fd,fx,F2,rfl,h3,h4,h5,rfl,h2⟩
    exact⟨nb au n aD C a b K agg col D,fx,_,F2,rfl,rfl,lh.of h3 h4 h5,h2⟩
theorem fp{h:aG}{L:List Chunk}{f:FuncId}{args dD:List af}{d:bg} [hu:Bd d]{K:ef->Prop}(S:aj h L)(hr:lZ pr f dD d)(hM:gI f=Am.Mode.N)(hs:dc h args=some dD)
  (hK: ∀v hh F,cq hh d v F->aj hh (.dL d v F::L)->K (.ret v hh)): ∃r,cj (dZ pr) (call (dZ pr)) f args h=some r/\K r:=by
   obtain⟨v,hh,F,hc,qB,ho,hn,hd⟩:=hr.at (h:=h) hM hs;exact⟨_,hc,hK v hh F ho (S.more qB ho hn hd)⟩
theorem N0.toD{f:FuncId}{args:List af}{xs:List Int}(hr:N0 i64 1 pr f args xs):lZ pr f args (.s 1 (xs.map bg.i)):=by
 obtain⟨v,h1,F,hc,ho,hn⟩:=hr;exact⟨v,h1,F,hc,KI.1 ho,hn⟩
theorem TJ.toD{f:FuncId}{args:List af}{p:aA}(hr:TJ pr f args p):lZ pr f args (.p p):=by
 obtain⟨v,h1,F,hc,ho,hn⟩:=hr;exact⟨v,h1,F,hc,by simp only[cq];exact ho,hn⟩
theorem bM{c:af}{r:List af}(h:c.bQ=true)(h2:r.all af.bQ=true):(c::r).all af.bQ=true:=by simp[h,h2]
theorem zW{P:Program}{fn:Func}{st:St}{dd t k:Nat}{x:af}{vs:List af}{ds:List bg}{F:List Nat}(hr:fn.results.toList=[.cell dd t])(ht:st.tm dd= .ptr k 0 0)(hk:st.hp[k]?=some (.box x))(hv:fZ P t x 0=some (.agg vs))
  (ho:fy st.hp ds vs F) (hn:F.Nodup): ∃r,qx P fn (some (.ret st))=some r/\ ∃v h F,r= .ret v h/\cq h (.g ds) v F/\F.Nodup:=
   ⟨_,eu hr ht hk hv,_,_,F,rfl,by simp only[cq];exact⟨vs,rfl,ho⟩,hn⟩
def iR.d(xs:List Int):bg:=.s 1 (xs.map bg.i)
def Item.d(x:Item):bg:=.g [iR.d x.row,.i x.w]
def aI.enc(xs:List Item):af:=.sl (xs.map Item.enc)
def aI.d(xs:List Item):bg:=.s 2 (xs.map Item.d)
def bX.enc(xs:List (List Item)):af:=.sl (xs.map aI.enc)
def bX.d(xs:List (List Item)):bg:=.s 1 (xs.map aI.d)
inductive bz where
 |mk (ez:aA) (left right:List (List Item)) (ao:List bz)
mutual
def bz.enc:bz->af
 | .mk (.mk au n aD cells a b aq agg col ao) l r ks=>.agg (bL au n aD (.sl (cells.map Cell.enc)) a b (.sl (aq.map i64)) agg col (.sl (aA.dv ao)) [bX.enc l,bX.enc r,.sl (bz.dv ks)])
def bz.dv:List bz->List af
 | []=>[]
 |f::fs=>f.enc::bz.dv fs
end
mutual
def bz.d:bz->bg
 | .mk p l r ks=>.g [.p p,.g [bX.d l],.g [bX.d r],.s 22 (bz.ds ks)]
def bz.ds:List bz->List bg
 | []=>[]
 |f::fs=>f.d::bz.ds fs
end
structure dg where
 dP:Int
 out:List Item
def dg.enc(x:dg):af:=.agg [i64 x.dP,aI.enc x.out]
def dg.d(x:dg):bg:=.g [.i x.dP,aI.d x.out]
structure View where
 hU:bz
 bO:Int
 base:List Item
 aZ:List dg
def View.enc(x:View):af:=.agg (x.hU.enc.cells++[i64 x.bO,aI.enc x.base,.sl (x.aZ.map dg.enc)])
def View.d(x:View):bg:=.g [x.hU.d,.i x.bO,aI.d x.base,.s 2 (x.aZ.map dg.d)]
structure bN where
 bc:List Int
 aH:List (List Item)
 aL:List View
 now:Int
 keep:Int
def bN.enc(x:bN):af:=.agg [.sl (x.bc.map i64),bX.enc x.aH,.sl (x.aL.map View.enc),i64 x.now,i64 x.keep]
def bN.d(x:bN):bg:=.g [iR.d x.bc,bX.d x.aH,.s 25 (x.aL.map View.d),.i x.now,.i x.keep]
instance(xs:List Int):Bd (iR.d xs):=by unfold iR.d;infer_instance
instance(x:Item):Bd x.d:=by unfold Item.d;infer_instance
instance(xs:List Item):Bd (aI.d xs):=by unfold aI.d;infer_instance
instance(xs:List (List Item)):Bd (bX.d xs):=by unfold bX.d;infer_instance
theorem Ik: ∀(N:Nat),(∀f:bz,SizeOf.sizeOf f<=N->f.d.Mz=true)/\ ∀fs:List bz,SizeOf.sizeOf fs<=N->bg.qK (bz.ds fs)=true:=by
 intro N
 induction N with
 |zero=>
  refine⟨fun f hs=>?_,fun fs hs=>?_⟩
  ·cases f;simp at hs
  ·cases fs<;>simp at hs
 |succ N ih=>
  refine⟨fun f hs=>?_,fun fs hs=>?_⟩
  ·obtain⟨p,l,r,ks⟩:=f;simp only[bz.mk.sizeOf_spec]at hs;have:=ih.2 ks (by omega);simp only[bz.d,bg.Mz,bg.qK,this,(inferInstance:Bd (bX.d l)).ok,(inferInstance:Bd (bX.d r)).ok,Bool.and_self]
  ·cases fs with
   |nil=>rfl
   |cons f fs=>
    simp at hs;simp only[bz.ds,bg.qK,ih.1 f (by omega),ih.2 fs (by omega),Bool.and_self]
instance(f:bz):Bd f.d:=⟨(Ik _).1 f (aah _)⟩
instance(fs:List bz):wF (bz.ds fs):=⟨(Ik _).2 fs (aah _)⟩
instance(x:dg):Bd x.d:=by unfold dg.d;infer_instance
instance(x:View):Bd x.d:=by unfold View.d;infer_instance
instance(x:bN):Bd x.d:=by unfold bN.d;infer_instance
theorem jC{α:Type}{f:α->bg}{g:α->af}(h: ∀x,(f x).enc=g x)(xs:List α):bg.dv (xs.map f)=xs.map g:=by
 rw[bg.jW,List.map_map];exact List.map_congr_left fun x _=>h x
theorem Item.fG(x:Item):x.d.enc=x.enc:=by
 simp only[Item.d,iR.d,bg.enc,bg.uo,bg.xX,af.cells];rfl
theorem aI.fG(xs:List Item):(aI.d xs).enc=aI.enc xs:=by simp only[aI.d,aI.enc,bg.enc,jC Item.fG]
theorem bX.fG(xs:List (List Item)):(bX.d xs).enc=bX.enc xs:=by simp only[bX.d,bX.enc,bg.enc,jC aI.fG]
theorem bX.cells(xs:List (List Item)):(bX.d xs).enc.cells=[bX.enc xs]:=by rw[bX.fG];rfl
mutual
theorem bz.fG: ∀f:bz,f.d.enc=f.enc
 | .mk (.mk au n aD cells a b aq agg col ao) l r ks=>by
  simp only[bz.d,bz.enc,bg.enc,bg.uo,bz.QZ ks,bX.cells,aaw];simp only[af.cells,aA.enc];rfl
theorem bz.QZ: ∀fs:List bz,bg.dv (bz.ds fs)=bz.dv fs
 | []=>by simp[bz.ds,bg.dv,bz.dv]
 |f::fs=>by simp only[bz.ds,bg.dv,bz.dv,bz.fG f,bz.QZ fs]
end
theorem dg.fG(x:dg):x.d.enc=x.enc:=by
 simp only[dg.d,dg.enc,bg.enc,bg.uo,aI.fG,af.cells];rfl
theorem View.fG(x:View):x.d.enc=x.enc:=by
 simp only[View.d,View.enc,bg.enc,bg.uo,aI.fG,bz.fG,jC dg.fG];rfl
theorem bN.fG(x:bN):x.d.enc=x.enc:=by
 simp only[bN.d,bN.enc,iR.d,bg.enc,bg.uo,bg.xX,bX.cells,jC View.fG];rfl
end Go.Proofs.YtfepbikckfehlaaGreat
set_option maxHeartbeats 4000000
namespace Go.Proofs.YtfepbikckfehlaaGreat
open Go Go.Am
variable{pr:bW}(hp:cF pr)
set_option maxRecDepth 100000
theorem dX{α:Type}{xs:List α}{j:Nat}(h:j<xs.length):xs.take (j+1)=xs.take j++[xs[j]]:=by rw[List.take_add_one];simp[h]
theorem eA{α:Type}{f:α->bg}{x:α}{xs:List α}(h:x∈xs):(f x).fA<=bg.fV (xs.map f):=bg.HY (aaO.2 ⟨x,h,rfl⟩)
theorem iS{h:aG}{d:bg}{v:af}{ds:List bg}{vs:List af}{F1 F2:List Nat}(h1:cq h d v F1)(h2:fy h ds vs F2):fy h (d::ds) (v.cells++vs) (F1++F2):=by
 simp only[fy];exact⟨v,vs,F1,F2,rfl,rfl,h1,h2⟩
theorem jD{h:aG}{sz:Nat}{xs:List bg}{v:af}{ds:List bg}{vs:List af}{F1 F2:List Nat}(h1:cq h (.s sz xs) v F1)(h2:fy h ds vs F2):fy h (.s sz xs::ds) (v::vs) (F1++F2):=l6.2 ⟨v,vs,F1,F2,rfl,rfl,h1,h2⟩
theorem fh{h:aG}{x:Int}{ds:List bg}{vs:List af}{F:List Nat}(h2:fy h ds vs F):fy h (.i x::ds) (i64 x::vs) F:=pc.2 ⟨vs,rfl,h2⟩
theorem iL{h:aG}:fy h [] [] []:=fO.2 ⟨rfl,rfl⟩
theorem cq.slice{h:aG}{sz:Nat}{xs:List bg}{v:af}{F:List Nat}(ho:cq h (.s sz xs) v F):v= .nil∨v= .sl []∨ ∃id n,v= .own id 0 n:=by
 simp only[cq]at ho;rcases ho with⟨_,_,rfl|rfl⟩|⟨id,vs,Fs,rfl,_⟩
 ·exact .inl rfl
 ·exact .inr (.inl rfl)
 ·exact .inr (.inr ⟨_,_,rfl⟩)
theorem pP{au n:Int}{aD:Test}{C:af}{a b:Int}{K:af}{agg col:Int}{D:af}{r:List af}(h1:C.bQ=true)(h2:K.bQ=true)(h3:D.bQ=true)(h4:r.all af.bQ=true):(bL au n aD C a b K agg col D r).all af.bQ=true:=by
 simp only[bL,abi,h1,h2,h3,h4,Bool.and_true];rfl
theorem iF{h:aG}{ds:List bg}{v:af}{F:List Nat}:cq h (.g ds) v F↔ ∃vs,v= .agg vs/\fy h ds vs F:=by simp only[cq]
theorem ME{h:aG}{sz:Nat}{xs:List bg}{A:af}{ds:List bg}{vs:List af}{F1 F2:List Nat}(h1:cq h (.g [.s sz xs]) (.agg [A]) F1)(h2:fy h ds vs F2):fy h (.g [.s sz xs]::ds) (A::vs) (F1++F2):=iS h1 h2
theorem E6{h:aG}{au n:Int}{aD:Test}{cells:List Cell}{a b:Int}{aq:List Int}{agg col:Int}{ao:List aA}{C K D:af}{ds:List bg}{vs:List af}{F1 F2:List Nat}
  (h1:cq h (.p (.mk au n aD cells a b aq agg col ao)) (nb au n aD C a b K agg col D) F1) (h2:fy h ds vs F2):fy h (.p (.mk au n aD cells a b aq agg col ao)::ds) (bL au n aD C a b K agg col D vs) (F1++F2):=iS h1 h2
theorem TP{h:aG}{es:List bg}{au n:Int}{aD:Test}{C:af}{a b:Int}{K:af}{agg col:Int}{D L R KS:af}{ds:List bg}{vs:List af}{F1 F2:List Nat}
  (h1:cq h (.g es) (.agg (bL au n aD C a b K agg col D [L,R,KS])) F1) (h2:fy h ds vs F2):fy h (.g es::ds) (bL au n aD C a b K agg col D (L::R::KS::vs)) (F1++F2):=iS h1 h2
theorem bz.jW(xs:List bz):bz.dv xs=xs.map bz.enc:=by induction xs with|nil=>rfl|cons x xs ih=>simp[bz.dv,ih]
theorem bz.E7(xs:List bz):bz.ds xs=xs.map bz.d:=by induction xs with|nil=>rfl|cons x xs ih=>simp[bz.ds,ih]
theorem Q0{p:aA}(h:p.sz<=1048576):p.small:=h
def MF:af:=.agg [i64 0,i64 0,i64 0,.bool false,i64 0,i64 0,i64 0,i64 0,i64 0,i64 0,i64 0,i64 0,.nil,i64 0,i64 0,.nil,i64 0,i64 0,.nil,.nil,.nil,.nil]
end Go.Proofs.YtfepbikckfehlaaGreat
set_option maxHeartbeats 4000000
namespace Go.Am
open Go
structure Fr(h0 h:aG)(F:List Nat):Prop where
 len:h0.length<=h.length
 out: ∀id,id<h0.length->id∉F->h[id]?=h0[id]?
theorem Fr.refl(h:aG)(F:List Nat):Fr h h F:=⟨aah _,fun _ _ _=>rfl⟩
theorem Fr.set{h0 h h':aG}{F:List Nat}{k:Nat}{o:dH}(f:Fr h0 h F)(e:h'=h.set k o)(hk:k∈F∨h0.length<=k):Fr h0 h' F:=
 ⟨by subst e;simpa using f.len,fun id h1 h2=>by
  subst e
  rw[abJ (fun e=>by subst e;rcases hk with h|h; · exact h2 h
                    ·omega)]
  exact f.out id h1 h2⟩
theorem Fr.alloc{h0 h h':aG}{F:List Nat}{o:dH}(f:Fr h0 h F)(e:h'=h++[o]):Fr h0 h' F:=
 ⟨by subst e;have:=f.len;simp;omega,fun id h1 h2=>by
  subst e;rw[aaN (by have:=f.len;omega)];exact f.out id h1 h2⟩
theorem Fr.qo{h0 h h':aG}{F F2:List Nat}(f:Fr h0 h F)(g:Fr h h' F2)(hF: ∀id∈F2,id∈F∨h0.length<=id):Fr h0 h' F:=
 ⟨aa3 f.len g.len,fun id h1 h2=>by
  rw[g.out id (by have:=f.len;omega) (fun hm=>by rcases hF id hm with h|h; · exact h2 h
                                                 ·omega)]
  exact f.out id h1 h2⟩
theorem Fr.mono{h0 h:aG}{F F2:List Nat}(f:Fr h0 h F)(hF: ∀id∈F,id∈F2∨h0.length<=id):Fr h0 h F2:=
 ⟨f.len,fun id h1 h2=>f.out id h1 fun hm=>by rcases hF id hm with h|h; · exact h2 h
                                             ·omega⟩
theorem aj.one{h:aG}{c:Chunk}(hc:c.P h)(hn:c.F.Nodup):aj h [c]:=by
 refine⟨fun i d hi=>?_,fun i j d e yP hi hj=>?_⟩
 ·cases i with
  |zero=>simp at hi;subst hi;exact⟨hc,hn⟩
  |succ i=>simp at hi
 ·cases i with
  |zero=>
   cases j with
   |zero=>exact absurd rfl yP
   |succ j=>simp at hj
  |succ i=>simp at hi
theorem aj.fr{h h':aG}{L:List Chunk}(s:aj h L)(i:Nat){c c':Chunk}(hi:L[i]?=some c)(g:Fr h h' c.F)(hc:c'.P h')(hF:c'.F=c.F):aj h' (L.set i c'):=
 s.qo i hi g.out hc (by rw[hF];exact(s.get' i c hi).2) fun id dm=>.inl (by rw[<-hF];exact dm)
theorem Be{A B:List af}{e:af}{i:Nat}(h:i=A.length):(A++e::B)[i]?=some e:=by
 subst h;rw[aaQ (aah _),Nat.sub_self];rfl
theorem Wj{A B:List af}{e e':af}{i:Nat}(h:i=A.length):(A++e::B).set i e'=A++e'::B:=by
 subst h;rw[List.set_append_right _ _ (aah _),Nat.sub_self];rfl
theorem aj.setRow{h h':aG}{L:List Chunk}(s:aj h L)(i:Nat){k sz idx:Nat}{A B:List af}{e e':af}(hi:L[i]?=some (.row k (.arr sz (A++e::B))))(hx:idx=A.length)(hh:h'=h.set k (.arr sz ((A++e::B).set idx e'))):
  aj h' (L.set i (.row k (.arr sz (A++e'::B)))):=by
   rw[Wj hx]at hh;exact s.set i hi hh
end Go.Am
namespace Go.Proofs.YtfepbikckfehlaaGreat
open Go Go.Am
variable{pr:bW}(hp:cF pr)
theorem nN{f:FuncId}(hM:gI f=Am.Mode.F)(args:List af)(h:aG):cj (dZ pr) (call (dZ pr)) f args h=call (dZ pr) f args h:=by
 have hm:(dZ pr).M f= .F:=hM;unfold cj;simp only[hm]
set_option maxRecDepth 100000
end Go.Proofs.YtfepbikckfehlaaGreat
set_option maxHeartbeats 4000000
namespace Go.Am
open Go
theorem aj.cut{h:aG}{L:List Chunk}{c c1 c2:Chunk}(s:aj h (c::L))(hF:c.F=c1.F++c2.F)(h1:c1.P h)(h2:c2.P h):aj h (c1::c2::L):=by
 have hn:=(s.get' 0 c rfl).2;rw[hF,List.nodup_append]at hn;obtain⟨n1,n2,n3⟩:=hn;have ha: ∀(j:Nat)(d:Chunk),L[j]?=some d-> ∀id∈c.F,id∉d.F:=fun j d hd=>s.apart 0 (j+1) c d (by omega) rfl (by simpa using hd);have hb: ∀(j:Nat)(d:Chunk),L[j]?=some d-> ∀id∈d.F,id∉c.F:=fun j d hd=>s.apart (j+1) 0 d c (by omega) (by simpa using hd) rfl;refine⟨fun i d hi=>?_,fun i j d e yP hi hj id dm hm=>?_⟩
 ·match i,hi with
  |0,hi=>simp at hi;subst hi;exact⟨h1,n1⟩
  |1,hi=>simp at hi;subst hi;exact⟨h2,n2⟩
  |i+2,hi=>exact s.get' (i+1) d (by simpa using hi)
 ·match i,j,hi,hj with
  |0,0,_,_=>exact yP rfl
  |1,1,_,_=>exact yP rfl
  |0,1,hi,hj=>simp at hi hj;subst hi hj;exact n3 id dm id hm rfl
  |1,0,hi,hj=>simp at hi hj;subst hi hj;exact n3 id hm id dm rfl
  |0,j+2,hi,hj=>simp at hi;subst hi;exact ha j e (by simpa using hj) id (by rw[hF];simp[dm]) hm
  |1,j+2,hi,hj=>simp at hi;subst hi;exact ha j e (by simpa using hj) id (by rw[hF];simp[dm]) hm
  |i+2,0,hi,hj=>simp at hj;subst hj;exact hb i d (by simpa using hi) id dm (by rw[hF];simp[hm])
  |i+2,1,hi,hj=>simp at hj;subst hj;exact hb i d (by simpa using hi) id dm (by rw[hF];simp[hm])
  |i+2,j+2,hi,hj=>exact s.apart (i+1) (j+1) d e (by omega) (by simpa using hi) (by simpa using hj) id dm hm
theorem aj.abu{h h':aG}{L:List Chunk}{c c':Chunk}(s:aj h (c::L))(g:Fr h h' c.F)(hc:c'.P h')(hF:c'.F=c.F):aj h' (c'::L):=s.fr 0 rfl g hc hF
theorem aj.is{h:aG}{L:List Chunk}{c c':Chunk}(s:aj h (c::L))(hc:c'.P h)(hF:c'.F=c.F):aj h (c'::L):=s.abu (Fr.refl h _) hc hF
end Go.Am
namespace Go.Proofs.YtfepbikckfehlaaGreat
open Go Go.Am
variable{pr:bW}(hp:cF pr)
set_option maxRecDepth 100000
theorem aj.uZ{h:aG}{L:List Chunk}{d:bg}{ds:List bg}{vs:List af}{F:List Nat}(s:aj h (.ed (d::ds) vs F::L)): ∃v fx F1 F2,vs=v::fx/\F=F1++F2/\aj h (.dL d v F1:: .ed ds fx F2::L):=by
 have h0:cZ h (d::ds) vs F:=s.get 0 rfl;simp only[cZ]at h0;obtain⟨v,fx,F1,F2,rfl,rfl,h1,h2⟩:=h0;exact⟨v,fx,F1,F2,rfl,rfl,s.cut rfl h1 h2⟩
theorem aj.open{h:aG}{L:List Chunk}{sz:Nat}{xs:List bg}{v:af}{F:List Nat}(s:aj h (.dL (.s sz xs) v F::L)):(xs=[]/\(v= .nil∨v= .sl [])/\aj h L)∨ ∃id vs Fs,v= .own id 0 xs.length/\F=id::Fs/\aj h (.row id (.arr sz vs):: .ed xs vs Fs::L):=by
 have h0:cq h (.s sz xs) v F:=s.get 0 rfl;simp only[cq]at h0;rcases h0 with⟨h1,h2,h3⟩|⟨id,vs,Fs,rfl,h1,h2,rfl⟩
 ·exact .inl ⟨h1,h3,s.drop 0⟩
 ·exact .inr ⟨id,vs,Fs,rfl,rfl,s.cut rfl h1 h2⟩
theorem aj.close{h:aG}{L:List Chunk}{sz n id:Nat}{xs:List bg}{vs:List af}{Fs:List Nat}(s:aj h (.row id (.arr sz vs):: .ed xs vs Fs::L))(hn:n=xs.length):aj h (.dL (.s sz xs) (.own id 0 n) (id::Fs)::L):=by
 subst hn;refine s.merge (e:=.dL (.s sz xs) (.own id 0 xs.length) (id::Fs)) ?_ (fun j hj=>?_) ?_
 ·show cq h _ _ _;simp only[cq];exact .inr ⟨id,vs,Fs,rfl,s.get 0 rfl,s.get 1 rfl,rfl⟩
 ·rcases aaz.1 hj with rfl|hj
  ·exact .inl (by simp[Chunk.row])
  ·exact .inr hj
 ·exact List.nodup_cons.2 ⟨fun hm=>s.apart 0 1 _ _ (by omega) rfl rfl id (by simp[Chunk.row]) hm,(s.get' 1 _ rfl).2⟩
theorem aj.snoc{h:aG}{L:List Chunk}{ds:List bg}{d:bg}{vs:List af}{v:af}{F F2:List Nat}(s:aj h (.dL d v F2:: .ed ds vs F::L)):aj h (.ed (ds++[d]) (vs++[v]) (F++F2)::L):=
 s.merge (e:=.ed (ds++[d]) (vs++[v]) (F++F2)) (lB (s.get 1 rfl) (oZ (s.get 0 rfl))) (fun id dm=>(aaS.1 dm).symm) s.KN
theorem Il(ys:List Int):bg.fV (ys.map bg.i)=0:=by induction ys with|nil=>rfl|cons y ys ih=>simp[bg.fV,bg.fA,ih]
theorem Item.fA(x:Item):x.d.fA=x.row.length:=by simp[Item.d,iR.d,bg.fA,bg.fV,Il]
end Go.Proofs.YtfepbikckfehlaaGreat
set_option maxHeartbeats 4000000
namespace Go.Am
open Go
def Chunk.off(c d:Chunk):Prop:=∀id∈c.F,id∉d.F
theorem Chunk.Q1{c d:Chunk}(h:c.off d):d.off c:=fun id h1 h2=>h id h2 h1
theorem aj.iff{h:aG}{L:List Chunk}:aj h L↔(∀c∈L,c.P h/\c.F.Nodup)/\L.Pairwise Chunk.off:=by
 constructor
 ·intro s;refine⟨fun c hc=>?_,List.pairwise_iff_getElem.2 fun i j hi hj yP=>?_⟩
  ·obtain⟨i,hi⟩:=List.getElem?_of_mem hc;exact s.get' i c hi
  ·exact s.apart i j _ _ (by omega) (aab hi) (aab hj)
 ·rintro ⟨h1,h2⟩
  rw[List.pairwise_iff_getElem]at h2;refine⟨fun i c hi=>h1 c (aaq hi),fun i j c d yP hi hj=>?_⟩;obtain⟨qz,rfl⟩:=aag.1 hi;obtain⟨Uw,rfl⟩:=aag.1 hj;rcases Nat.lt_or_gt_of_ne yP with h|h
  ·exact h2 i j qz Uw h
  ·exact Chunk.Q1 (h2 j i Uw qz h)
theorem Bf: ∀{Cs:List Chunk},(Cs.flatMap Chunk.F).Nodup->(∀c∈Cs,c.F.Nodup)/\Cs.Pairwise Chunk.off
 | [],_=>⟨fun c hc=>by simp at hc,.nil⟩
 |c::Cs,hn=>by
  rw[List.flatMap_cons,List.nodup_append]at hn;obtain⟨n1,n2,n3⟩:=hn;obtain⟨i1,i2⟩:=Bf n2;refine⟨fun d hd=>?_,List.pairwise_cons.2 ⟨fun d hd id h1 h2=>n3 id h1 id (List.mem_flatMap.2 ⟨d,hd,h2⟩) rfl,i2⟩⟩;rcases aaz.1 hd with rfl|hd
  ·exact n1
  ·exact i1 d hd
theorem aj.Q2{h:aG}{L:List Chunk}{c:Chunk}(s:aj h (c::L))(Cs:List Chunk)(hF:c.F=Cs.flatMap Chunk.F)(hP: ∀d∈Cs,d.P h):aj h (Cs++L):=by
 obtain⟨h1,h2⟩:=aj.iff.1 s;obtain⟨h3,h4⟩:=List.pairwise_cons.1 h2;have hn:=(h1 c (by simp)).2;rw[hF]at hn;obtain⟨n1,n2⟩:=Bf hn;refine aj.iff.2 ⟨fun d hd=>?_,List.pairwise_append.2 ⟨n2,h4,fun a ha b hb id hi=>h3 b hb id ?_⟩⟩
 ·rcases aaS.1 hd with hd|hd
  ·exact⟨hP d hd,n1 d hd⟩
  ·exact h1 d (by simp[hd])
 ·rw[hF];exact List.mem_flatMap.2 ⟨a,ha,hi⟩
end Go.Am
set_option maxHeartbeats 4000000
namespace Go.Am
open Go
theorem Bg{f g:af->Option af}(h: ∀x a,f x=some a->g x=some a): ∀(l r:List af),di f l=some r->di g l=some r
 | [],r,e=>e
 |x::xs,r,e=>by
  simp only[di]at e⊢
  cases hx:f x with
  |none=>simp[hx]at e
  |some a=>
   cases zN:di f xs with
   |none=>simp[hx,zN]at e
   |some as2=>
    simp only[hx,zN]at e;simp only[h x a hx,Bg h xs as2 zN];exact e
theorem N3(h:aG): ∀(n:Nat)(v a:af),cI [] n v=some a->cI h n v=some a:=by
 intro n
 induction n with
 |zero=>intro v a e;cases e
 |succ n ih=>
  intro v a e;have hm:=Bg ih;cases v
  case own id st len=>simp[cI]at e
  case ptr id i off=>simp[cI]at e
  case map id=>simp[cI]at e
  case agg cs=>
   simp only[cI,nM]at e⊢;obtain⟨r,h1,h2⟩:=e;exact⟨r,hm _ _ h1,h2⟩
  case eT cs=>
   simp only[cI,nM]at e⊢;obtain⟨r,h1,h2⟩:=e;exact⟨r,hm _ _ h1,h2⟩
  case func fn x y=>
   simp only[cI]at e⊢
   cases h1:di (cI [] n) x with
   |none=>simp[h1]at e
   |some x'=>
    cases h2:di (cI [] n) y with
    |none=>simp[h1,h2]at e
    |some y'=>
     simp only[h1,h2]at e;simp only[hm _ _ h1,hm _ _ h2];exact e
  case iface t v=>
   simp only[cI,nM]at e⊢;obtain⟨r,h1,h2⟩:=e;exact⟨r,ih _ _ h1,h2⟩
  all_goals exact e
theorem x5(h:aG){l r:List af}(e:dc [] l=some r):dc h l=some r:=Bg (N3 h 4194304) l r e
theorem bu{h:aG}{a a':af}{l l':List af}(ha:snap h a=some a')(hl:dc h l=some l'):dc h (a::l)=some (a'::l'):=by
 unfold dc at hl⊢;simp only[di,ha,hl]
theorem dM(h:aG):dc h []=some []:=rfl
end Go.Am
namespace Go.Proofs.YtfepbikckfehlaaGreat
open Go Go.Am
theorem dK.here{pr:bW}{f:FuncId}{args dD:List af}{res:af}{h:aG}(hr:dK pr f dD res)(hs:dc h args=Option.some dD)(hi:dc [] dD=Option.some dD)(aQ:res.isScalar=true)(hM:gI f=Am.Mode.P:=by rfl):
  cj (dZ pr) (call (dZ pr)) f args h=Option.some (.ret res h):=by
   cases hn:dc [] args with
   |none=>exact hr.frozen hn hs hi aQ hM
   |some as2=>
    have:=x5 h hn;rw[hs]at this;cases this
    exact hr.mX hn hi hM h
def sv(sz:Nat)(h:aG)(xs:List bg)(v:af)(F:List Nat):Prop:=cq h (.s sz xs) v F/\(v= .nil∨ ∃id,v= .own id 0 xs.length)
def _root_.Go.Am.Chunk.jA(sz:Nat)(xs:List bg)(v:af)(F:List Nat):Chunk:=⟨F,fun h=>sv sz h xs v F,fun h h' hp hf=>⟨cq.frame hp.1 hf,hp.2⟩,fun h hp=>cq.lt hp.1⟩
theorem aj.lJ{h:aG}{L:List Chunk}(sz:Nat)(s:aj h L):aj h (.jA sz [] .nil []::L):=
 s.more (c:=.jA sz [] .nil []) (aa2 _) (by show sv _ _ _ _ _;exact⟨by simp[cq],.inl rfl⟩) (by simp[Chunk.jA]) (by simp[Chunk.jA])
theorem aj.ek{h:aG}{L:List Chunk}{sz:Nat}{xs:List bg}{v:af}{F:List Nat}(s:aj h (.jA sz xs v F::L)):aj h (.dL (.s sz xs) v F::L):=
 s.is (c':=.dL (.s sz xs) v F) (show sv _ _ _ _ _ from s.get 0 rfl).1 rfl
theorem aj.wH{h:aG}{L:List Chunk}{sz:Nat}{xs:List bg}{v:af}{F:List Nat}(s:aj h (.jA sz xs v F::L)):
  (xs=[]/\v= .nil/\aj h L)∨ ∃id vs Fs,v= .own id 0 xs.length/\aj h (.row id (.arr sz vs):: .ed xs vs Fs::L):=by
   have h0:sv sz h xs v F:=s.get 0 rfl;obtain⟨h1,h2⟩:=h0;rcases aj.open (aj.ek s)with⟨g1,g2,g3⟩|⟨id,vs,Fs,rfl,g2,g3⟩
   ·rcases h2 with rfl|⟨id,rfl⟩
    ·exact .inl ⟨g1,rfl,g3⟩
    ·rcases g2 with g2|g2<;>cases g2
   ·exact .inr ⟨id,vs,Fs,rfl,g3⟩
theorem aj.jX{h:aG}{L:List Chunk}{sz n id:Nat}{xs:List bg}{vs:List af}{Fs:List Nat}(s:aj h (.row id (.arr sz vs):: .ed xs vs Fs::L))(hn:n=xs.length):aj h (.jA sz xs (.own id 0 n) (id::Fs)::L):=by
 have s1:=aj.close s hn;exact s1.is (c':=.jA sz xs (.own id 0 n) (id::Fs)) ⟨s1.get 0 rfl,.inr ⟨id,by rw[hn]⟩⟩ rfl
theorem lp{h:aG}{B:List Chunk}{sz:Nat}{xs:List bg}{d:bg}{v w:af}{F Fw:List Nat}{K:af->aG->Prop}(S:aj h (.jA sz xs v F:: .dL d w Fw::B))(hl:xs.length+1<=bB)
  (hK: ∀k h' F',aj h' (.jA sz (xs++[d]) (.own k 0 (xs.length+1)) F'::B)->K (.own k 0 (xs.length+1)) h'):Kk h sz v [w] K:=by
   rcases aj.wH S with⟨rfl,rfl,S1⟩|⟨id,vs,Fs,rfl,S1⟩
   ·refine .inr ⟨by simp,by simp[bB],fun k h' e1 e2=>?_⟩;have S2:=S1.alloc e1 e2;have S3:=(S2.swap.more (c:=.ed [] [] []) (aa2 _) (by show cZ _ _ _ _;simp[cZ]) (by simp[Chunk.ed]) (by simp[Chunk.ed])).swap;have S4:=(aj.snoc S3).swap;exact hK k h' _ (aj.jX S4 rfl)
   ·have CI:vs.length=xs.length:=iw (S1.get 1 rfl);refine⟨vs,S1.row 0 rfl,rfl,by omega,.inr ⟨by simp,by simpa using hl,fun k h' e1 e2=>?_⟩⟩;rw[show vs.take xs.length=vs by rw[abt (by omega)]]at e2⊢;have S2:=S1.move 0 rfl (by simpa using e1) e2;dsimp only[List.eraseIdx]at S2;have S3:=S2.swap.front 2 rfl;dsimp only[List.eraseIdx]at S3;have S4:=(aj.snoc S3).swap;have S5:=aj.jX (n:=xs.length+1) S4 (by simp);have:=hK k h' _ S5;rw[abv,CI];exact this
def u0(pr:bW)(f:FuncId)(args:List af)(sz:Nat)(xs:List bg):Prop:=∃v h1 F,call (dZ pr) f args []=some (.ret v h1)/\sv sz h1 xs v F/\F.Nodup
theorem u0.toD{pr:bW}{f:FuncId}{args:List af}{sz:Nat}{xs:List bg}(hr:u0 pr f args sz xs):lZ pr f args (.s sz xs):=by
 obtain⟨v,h1,F,hc,ho,hn⟩:=hr;exact⟨v,h1,F,hc,ho.1,hn⟩
theorem dG{pr:bW}{h:aG}{L:List Chunk}{f:FuncId}{args dD:List af}{sz:Nat}{xs:List bg} [hu:wF xs]{K:ef->Prop}(S:aj h L)(hr:u0 pr f dD sz xs)(hM:gI f=Am.Mode.N)(hs:dc h args=some dD)
  (hK: ∀v hh F,aj hh (.jA sz xs v F::L)->K (.ret v hh)): ∃r,cj (dZ pr) (call (dZ pr)) f args h=some r/\K r:=by
   obtain⟨v,h1,F,hc,⟨ho,hv⟩,hn⟩:=hr;obtain⟨g1,g2,g3⟩:=(xY (h:=h) _).1 (.s sz xs) v F (aah _) (by simp only[bg.Mz,hu.ok]) ho;have hm:(dZ pr).M f= .N:=hM;refine⟨.ret (jj h.length v) (h++h1.map (dH.keep h.length)),?_,hK _ _ (F.map (· +h.length)) (S.more (c:=.jA sz xs (jj h.length v) (F.map (· +h.length))) (List.prefix_append _ _) ⟨g1,?_⟩ (lA _ hn) fun id dm=>?_)⟩
   ·unfold cj;simp only[hm,hs,hc,MA g3 g2,if_true,Ia g3]
   ·rcases hv with rfl|⟨id,rfl⟩
    ·exact .inl rfl
    ·exact .inr ⟨id+h.length,rfl⟩
   ·obtain⟨y,_,rfl⟩:=aaO.1 dm;omega
set_option maxRecDepth 100000 in
theorem E8{pr:bW}(hp:cF pr){f:FuncId}{args:List af}{sz:Nat}{xs:List bg}(hn:plain f=true)(hw:Hm (dZ pr) f args [] (fun r=>∃v h F,r= .ret v h/\sv sz h xs v F/\F.Nodup)):u0 pr f args sz xs:=by
 obtain⟨r,hr,v,h,F,rfl,h1,h2⟩:=mM (hp.out f hn) hw;exact⟨v,h,F,hr,h1,h2⟩
theorem fi{cs:List af}{sz:Nat}(hl:cs.length=sz)(h:cs.all af.bQ=true):[af.agg cs].all (jh sz)=true:=by
 simp only[abi,List.all_nil,Bool.and_true,jh,af.cells,hl,h,beq_self_eq_true,aay]
theorem dI{v:af}(hv:v.cells=[v])(h:v.bQ=true):[v].all (jh 1)=true:=by
 simp[jh,hv,h]
theorem iG{pr:bW}{h:aG}{L:List Chunk}{f:FuncId}{args dD:List af}{ds:List bg} [hu:wF ds]{K:ef->Prop}(S:aj h L)(hr:nc pr f dD ds)(hM:gI f=Am.Mode.N)(hs:dc h args=some dD)
  (hK: ∀vs hh F,aj hh (.ed ds vs F::L)->K (.ret (.eT vs) hh)): ∃r,cj (dZ pr) (call (dZ pr)) f args h=some r/\K r:=by
   obtain⟨vs,hh,F,hc,qB,ho,hn,hd⟩:=hr.at (h:=h) hM hs;exact⟨_,hc,hK vs hh F (S.more (c:=.ed ds vs F) qB ho hn hd)⟩
theorem aj.two{h:aG}{L:List Chunk}{d1 d2:bg}{vs:List af}{F:List Nat}(S:aj h (.ed [d1,d2] vs F::L)): ∃v1 v2 F1 F2,vs=[v1,v2]/\aj h (.dL d1 v1 F1:: .dL d2 v2 F2::L):=by
 obtain⟨v1,vs1,F1,G1,rfl,rfl,S1⟩:=aj.uZ S;obtain⟨v2,vs2,F2,G2,rfl,rfl,S2⟩:=aj.uZ S1.swap;have h0:cZ h [] vs2 G2:=S2.get 1 rfl;simp only[cZ]at h0;obtain⟨rfl,rfl⟩:=h0;exact⟨v1,v2,F1,F2,rfl,(S2.drop 1).swap⟩
theorem aj.lC{h:aG}{L:List Chunk}{d1:bg}{b:Bool}{vs:List af}{F:List Nat}(S:aj h (.ed [d1,.b b] vs F::L)): ∃v1 F1,vs=[v1,.bool b]/\aj h (.dL d1 v1 F1::L):=by
 obtain⟨v1,v2,F1,F2,rfl,S1⟩:=aj.two S;have h0:cq h (.b b) v2 F2:=S1.get 1 rfl;unfold cq at h0;obtain⟨rfl,rfl⟩:=h0;exact⟨v1,F1,rfl,S1.drop 1⟩
theorem aj.y6{h:aG}{L:List Chunk}{d1:bg}{n:Int}{vs:List af}{F:List Nat}(S:aj h (.ed [d1,.i n] vs F::L)): ∃v1 F1,vs=[v1,i64 n]/\aj h (.dL d1 v1 F1::L):=by
 obtain⟨v1,v2,F1,F2,rfl,S1⟩:=aj.two S;have h0:cq h (.i n) v2 F2:=S1.get 1 rfl;unfold cq at h0;obtain⟨rfl,rfl⟩:=h0;exact⟨v1,F1,rfl,S1.drop 1⟩
end Go.Proofs.YtfepbikckfehlaaGreat

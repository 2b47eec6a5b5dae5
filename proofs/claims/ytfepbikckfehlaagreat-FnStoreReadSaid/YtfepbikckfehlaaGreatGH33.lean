/- Stores that are ok: the reference's. -/
import Derived.Test.YtfepbikckfehlaaGreatGH22
import Derived.Test.YtfepbikckfehlaaGreatGH21
import Derived.Test.YtfepbikckfehlaaGreatGH32
set_option linter.unusedVariables false
set_option linter.unusedSimpArgs false
set_option maxHeartbeats 4000000
namespace Go.Proofs.YtfepbikckfehlaaGreat
open Go Go.Am
theorem Ck: ∀a:List Int,gW a a=0
 | []=>rfl
 |x::xs=>by simp only[gW];simp[Ck xs]
theorem DO: ∀{a b:List Int},gW a b=0->a=b
 | [],[],_=>rfl
 | [],_::_,h=>by simp[gW]at h
 |_::_,[],h=>by simp[gW]at h
 |x::xs,y::ys,h=>by
  simp only[gW]at h;split at h
  ·simp at h
  ·split at h
   ·simp at h
   ·have:=DO h;have e:x=y:=by omega
    rw[this,e]
theorem Cl: ∀(a b:List Int),gW b a= -gW a b
 | [],[]=>rfl
 | [],_::_=>rfl
 |_::_,[]=>rfl
 |x::xs,y::ys=>by
  simp only[gW]
  by_cases h1:x<y
  ·have: ¬y<x:=by omega
   simp[h1,this]
  ·by_cases h2:x>y
   ·have:y<x:=h2;simp[h1,this]
   ·have e1: ¬y<x:=h2;have e2: ¬y>x:=h1;simp only[h1,h2,e1,e2,if_false];exact Cl xs ys
theorem Ah: ∀{a b c:List Int},gW a b<0->gW b c<0->gW a c<0
 | [],[],_,h,_=>by simp[gW]at h
 | [],_::_,[],_,h=>by simp[gW]at h
 | [],_::_,_::_,_,_=>by simp[gW]
 |_::_,[],_,h,_=>by simp[gW]at h
 |_::_,_::_,[],_,h=>by simp[gW]at h
 |x::xs,y::ys,z::zs,h1,h2=>by
  have ih:=@Ah xs ys zs;simp only[gW]at h1 h2⊢;split at h1<;>split at h2
  ·rw[if_pos (by omega)];omega
  ·split at h2
   ·omega
   ·rw[if_pos (by omega)];omega
  ·split at h1
   ·omega
   ·rw[if_pos (by omega)];omega
  ·split at h1
   ·omega
   ·split at h2
    ·omega
    ·rw[if_neg (by omega),if_neg (by omega)];exact ih h1 h2
theorem lU(a b:List Int):eg a b=true↔gW a b<0:=by rw[<-Df];simp
theorem Bp(a b:List Int):eg a b=false↔ ¬gW a b<0:=by rw[<-Df];simp
theorem GV(a:List Int):cG (· == ·) a a=true:=by
 induction a with
 |nil=>rfl
 |cons x xs ih=>simp[cG,ih]
theorem oy(a b:List Int):eS a b=true↔a=b:=by
 unfold eS;constructor
 ·intro h
  induction a generalizing b with
  |nil=>cases b with|nil=>rfl|cons y ys=>simp[cG]at h
  |cons x xs ih=>
   cases b with
   |nil=>simp[cG]at h
   |cons y ys=>
    simp only[cG,aj,beq_iff_eq]at h;rw[h.1,ih _ h.2]
 ·rintro rfl;exact GV a
theorem oU{a b c:List Int}(h1:eg a b=true)(h2:eg b c=true):eg a c=true:=by
 rw[lU]at*;exact Ah h1 h2
def j5:List Item->Prop
 | []=>True
 |x::xs=>(∀y∈xs,eg x.row y.row=true)/\j5 xs
theorem MQ{z:List Item}: ∀{q:Option (List Int)},B5 q z=true->j5 z/\ ∀r,q=some r-> ∀y∈z,eg r y.row=true:=by
 induction z with
 |nil=>intro q _;exact⟨trivial,fun r _ y hy=>by simp at hy⟩
 |cons x xs ih=>
  intro q h;simp only[B5,aj]at h;obtain⟨⟨h1,h2,h3⟩,h4⟩:=h;obtain⟨g1,g2⟩:=ih h4;refine⟨⟨fun y hy=>g2 _ rfl y hy,g1⟩,fun r hr y hy=>?_⟩;subst hr;simp only at h3;rcases aW.1 hy with rfl|hy
  ·exact h3
  ·exact oU h3 (g2 _ rfl y hy)
theorem pG{z:List Item}(h:c7 z=true):j5 z:=by
 simp only[c7,aj]at h;exact(MQ h.2).1
theorem Xg{z:List Item}: ∀{q:Option (List Int)},B5 q z=true-> ∀x∈z,Nu x.w=true/\nh x.row=true:=by
 induction z with
 |nil=>intro q _ x hx;simp at hx
 |cons y ys ih=>
  intro q h x hx;simp only[B5,aj]at h;rcases aW.1 hx with rfl|hx
  ·exact⟨h.1.2.1,h.1.1⟩
  ·exact ih h.2 x hx
theorem K4{z:List Item}(h:c7 z=true): ∀x∈z,x.w≠0:=fun x hx=>by
 simp only[c7,aj]at h;have:=(Xg h.2 x hx).1;intro e;simp[Nu,e]at this
theorem Jw{z:List Item}(hz:j5 z)(r:List Int)(w:Int):j5 (fT z r w):=by
 induction z with
 |nil=>unfold fT;split<;>simp[j5]
 |cons x xs ih=>
  have key: ∀y∈fT xs r w,eg x.row r=true->eg x.row y.row=true:=fun y hy hr=>by
   rcases pz y hy with e|⟨u,hu,e⟩
   ·rw[e];exact hr
   ·rw[e];exact hz.1 u hu
  unfold fT;split
  ·rename_i h;exact⟨fun y hy=>key y hy h,ih hz.2⟩
  ·rename_i h;split
   ·split
    ·exact hz.2
    ·exact⟨fun y hy=>hz.1 y hy,hz.2⟩
   ·rename_i h2;split
    ·exact hz
    ·have eH:eg r x.row=true:=by
      rw[lU]
      have h1: ¬gW x.row r<0:=by
       rw[<-lU];simpa using h
      have h3:gW x.row r≠0:=fun e=>by
       have:=DO e;rw[this,oy]at h2;exact h2 rfl
      have:=Cl x.row r;omega
     refine⟨fun y hy=>?_,hz⟩;rcases aW.1 hy with rfl|hy
     ·exact eH
     ·exact oU eH (hz.1 y hy)
theorem Ai{a:List Item}(ha:j5 a)(b:List Item):j5 (ct a b):=by
 unfold ct
 induction b generalizing a with
 |nil=>exact ha
 |cons y ys ih=>exact ih (Jw ha _ _)
theorem sy{x:Item}{xs:List Item}{b:List Item}(h: ∀y∈b,eg x.row y.row=true):ct (x::xs) b=x::ct xs b:=by
 unfold ct
 induction b generalizing xs with
 |nil=>rfl
 |cons y ys ih=>
  simp only[List.foldl_cons];rw[show fT (x::xs) y.row y.w=x::fT xs y.row y.w by rw[fT,if_pos (h y (by simp))]];exact ih fun z hz=>h z (by simp[hz])
theorem kN: ∀{b:List Item},j5 b->(∀x∈b,x.w≠0)->ct [] b=b
 | [],_,_=>rfl
 |y::ys,hb,hw=>by
  have h1:fT [] y.row y.w=[y]:=by
   unfold fT;rw[if_neg (by simpa using hw y (by simp))]
  show ct (fT [] y.row y.w) ys=_;rw[h1,sy hb.1,kN hb.2 fun x hx=>hw x (by simp[hx])]
theorem GW: ∀(n:Nat)(a b:List Item),a.length+b.length<=n->j5 a->j5 b->(∀x∈b,x.w≠0)->dN a b=ct a b:=by
 intro n
 induction n with
 |zero=>intro a b h _ _ _;have ha:a=[]:=bk.1 (by omega);have hb:b=[]:=bk.1 (by omega);subst ha;subst hb;simp[dN,ct]
 |succ n ih=>
  intro a b h ha hb hw
  cases a with
  |nil=>rw[tH,kN hb hw]
  |cons x xs=>
   cases b with
   |nil=>rw[rI];rfl
   |cons y ys=>
    simp only[aJ]at h;rw[dN]
    by_cases h1:gW x.row y.row<0
    ·rw[if_pos h1,sy,ih xs (y::ys) (by simp;omega) ha.2 hb hw];intro z hz;rcases aW.1 hz with rfl|hz
     ·rw[lU];exact h1
     ·exact oU (by rw[lU];exact h1) (hb.1 z hz)
    ·rw[if_neg h1];have Kq:eg x.row y.row=false:=by rw[Bp];exact h1
     by_cases h2:gW x.row y.row>0
     ·rw[if_pos h2,ih (x::xs) ys (by simp;omega) ha hb.2 fun z hz=>hw z (by simp[hz])]
      have TH:eS x.row y.row=false:=by
       cases hc:eS x.row y.row with
       |false=>rfl
       |true=>rw[oy]at hc;rw[hc,Ck]at h2;omega
      have hp:fT (x::xs) y.row y.w=y::x::xs:=by
       rw[fT,if_neg (by rw[Kq];simp),if_neg (by rw[TH];simp),if_neg (by simpa using hw y (by simp))]
      show _=ct (fT (x::xs) y.row y.w) ys;rw[hp];rw[sy hb.1]
     ·rw[if_neg h2];have he:x.row=y.row:=DO (by omega);have hs:eS x.row y.row=true:=by rw[oy];exact he
      have hp:fT (x::xs) y.row y.w=if j8 x.w y.w==0 then xs else⟨x.row,j8 x.w y.w⟩::xs:=by
       rw[fT,if_neg (by rw[Kq];simp),if_pos hs]
      show _=ct (fT (x::xs) y.row y.w) ys;rw[hp,ih xs ys (by omega) ha.2 hb.2 fun z hz=>hw z (by simp[hz])]
      cases hc:(j8 x.w y.w==0)with
      |true=>
       have:(j8 x.w y.w != 0)=false:=by simp[bne,hc]
       rw[this]
       rfl
      |false=>
       have:(j8 x.w y.w != 0)=true:=by simp[bne,hc]
       rw[this];show Pl x y::ct xs ys=ct (⟨x.row,j8 x.w y.w⟩::xs) ys;rw[sy (x:=⟨x.row,j8 x.w y.w⟩)]
       ·rfl
       ·intro z hz;show eg x.row z.row=true;rw[he];exact hb.1 z hz
theorem Cm{a b:List Item}(ha:j5 a)(hb:c7 b=true):dN a b=ct a b:=GW _ a b (aB _) ha (pG hb) (K4 hb)
theorem Cn(done:List (List Item))(z:List Item):gX (done++[z])=ct (gX done) z:=by simp[gX,List.foldl_append]
theorem Jy(done:List (List Item)):j5 (gX done):=by
 unfold gX
 have: ∀(l:List (List Item))(a:List Item),j5 a->j5 (l.foldl ct a):=by
  intro l
  induction l with
  |nil=>intro a h;exact h
  |cons z zs ih=>intro a h;exact ih _ (Ai h z)
 exact this _ _ trivial
theorem GX: ∀(rest done:List (List Item)),rQ (gX done) rest=oo done rest
 | [],_=>rfl
 |z::rest,done=>by
  simp only[rQ,oo]
  cases hz:c7 z with
  |false=>simp
  |true=>
   have hm:=Cm (Jy done) hz;rw[hm,<-Cn,GX rest (done++[z])]
   cases done with
   |nil=>
    have:gX ([]++[z])=z:=by
     rw[Cn];exact kN (pG hz) (K4 hz)
    rw[this,hz]
    simp
   |cons d ds=>simp[Bool.and_assoc]
theorem MR(bx:List (List Item)):gN bx=en bx:=by
 unfold gN en;rw[<-GX];rfl
theorem qA{α:Type}{f:α->α->Bool}: ∀{us vs:List α},(∀u∈us,∀v,f u v=true->u=v)->cG f us vs=true->us=vs
 | [],[],_,_=>rfl
 | [],_::_,_,h=>by simp[cG]at h
 |_::_,[],_,h=>by simp[cG]at h
 |u::us,v::vs,hf,h=>by
  simp only[cG,aj]at h;rw[hf u (by simp) v h.1,qA (fun x hx=>hf x (by simp[hx])) h.2]
theorem Jz{c d:Cell}(h:jm c d=true):c=d:=by
 obtain⟨k,a,b,n⟩:=c;obtain⟨k2,a2,b2,n2⟩:=d;simp[jm]at h;simp[h]
theorem JA{s t:Test}(h:tB s t=true):s=t:=by
 obtain⟨k,no,⟨a1,a2,a3,a4⟩,⟨b1,b2,b3,b4⟩⟩:=s;obtain⟨k',no',⟨a1',Md,a3',a4'⟩,⟨b1',b2',b3',b4'⟩⟩:=t;simp[tB]at h;simp[h]
theorem GY: ∀(N:Nat)(p q:ax),SizeOf.sizeOf p<=N->eb p q=true->p=q:=by
 intro N
 induction N with
 |zero=>intro p q h;cases p;simp at h
 |succ N ih=>
  intro p q hs h;obtain⟨aw,n,aA,cells,a,b,ao,agg,c,al⟩:=p;obtain⟨cd,n',cr,bK,a',b',cm,cX,c',bU⟩:=q;simp only[eb,ly,ax.aw,ax.n,ax.aA,ax.cells,ax.a,ax.b,ax.ao,ax.agg,ax.col,ax.al,aj,beq_iff_eq]at h;obtain⟨⟨rfl,rfl,ht,rfl,rfl,rfl,rfl⟩,hc,hk,yd⟩:=h;rw[JA ht,qA (fun _ _ _ h=>Jz h) hc,qA (fun u _ v h=>by simpa using h) hk,qA (fun u hu v h=>ih u v (by have:=List.sizeOf_lt_of_mem hu;simp at hs;omega) h) yd]
theorem JB{p q:ax}(h:eb p q=true):p=q:=GY _ p q (aB _) h
theorem MS: ∀(d:Nat)(f:bA),dep f.dx<=d->lT d f=jB gN f:=by
 intro d
 induction d with
 |zero=>intro f h;obtain⟨⟨aw,n,aA,cells,a,b,ao,agg,c,al⟩,l,r,ks⟩:=f;simp only[bA.dx,dep]at h;omega
 |succ d ih=>
  intro f h;obtain⟨⟨aw,n,aA,cells,a,b,ao,agg,c,al⟩,l,r,ks⟩:=f;simp only[bA.dx,dep]at h;rw[lT,jB];have SU:ju en aw l r=ju gN aw l r:=by simp only[ju,MR]
  have yd: ∀(ks:List bA)(qs:List ax),(∀q∈qs,dep q<=d)->mu d ks qs=kL gN ks qs:=by
   intro ks
   induction ks with
   |nil=>intro qs _;simp[mu,kL]
   |cons k ks Yp=>
    intro qs hq
    cases qs with
    |nil=>simp[mu,kL]
    |cons q qs=>
     simp only[mu,kL];rw[Yp qs fun x hx=>hq x (by simp[hx])]
     cases he:eb k.dx q with
     |false=>rfl
     |true=>
      have:=JB he;rw[ih k (by rw[this];exact hq q (by simp))]
  simp only[ax.aw,ax.al];rw[SU,yd ks al fun q hq=>by have:=rP hq;omega]
theorem MT(f:bA):(fit f.dx&&lT 6 f)=(fit f.dx&&jB gN f):=by
 cases hf:fit f.dx with
 |false=>rfl
 |true=>
  have:dep f.dx<=6:=by
   simp only[fit,aj]at hf;exact GL 6 _ hf.1
  rw[MS 6 f this]
end Go.Proofs.YtfepbikckfehlaaGreat
set_option maxHeartbeats 4000000
namespace Go.Proofs.YtfepbikckfehlaaGreat
open Go Go.Am
variable{pr:bL}(hp:bV pr)(hs:B8 pr)
set_option maxRecDepth 100000
def mw(z:List Item)(wide:Int):Bool:=z.all fun x=>decide ((x.row.length:Int)=wide)
def iv(z:List Item)(wide:Int):Bool:=mw z wide&&c7 z
def rR(z:List Item)(wide:Int):Bool:=(z.all fun x=>decide (1<=x.w)&&decide ((x.row.length:Int)=wide))&&c7 z
theorem Aj(hp:bV pr)(z:List Item)(wide:Int)(hz:gi z):dm pr 62 [aE.enc z,i64 wide] (.bool (iv z wide)):=by
 have h2:=gu hp z hz;have hl:=hz.1;unfold cM at hl;generalize hR:iv z wide=R;unfold iv mw at hR;refine ea hp rfl rfl ?_;have S:ah [] []:=ah.nil [];conv=>whnf
 refine ga (fun m tm hp=>∃(j:Nat),j+m=z.length/\tm 5=i64 (j:Nat)/\(((z.drop j).all (fun x=>decide ((x.row.length:Int)=wide))&&c7 z)=R)) (fun m tm hq bz hI=>?_) (z.length) ⟨0,by simp,(by first|rfl|kernel_rfl|simp),(hR)⟩;obtain⟨j,hj,e5,aD⟩:=hI;have k0:=bz 0 (by kernel_rfl);conv at k0=>rhs;whnf
 rw[<-aP k0];have k1:=bz 1 (by kernel_rfl);conv at k1=>rhs;whnf
 rw[<-aP k1];rw[<-aP e5];clear bz k0 k1 e5;have S:ah hq []:=ah.nil hq;conv=>whnf
 refine ae (fun h1=>?_) (fun h1=>?_)
 ·have bq:j<z.length:=by simpa using h1
  have cx:(z.map Item.enc)[((j:Nat):Int).toNat]?=some (Item.enc z[j]):=by rw[aq];simp[bq]
  rw[ar bq,List.all_cons]at aD;generalize z[j]=x at cx aD;obtain⟨row,w⟩:=x;simp only at aD;conv=>whnf
  refine⟨_,cx,by omega,rfl,?_⟩;conv=>whnf
  refine ae (fun g1=>?_) (fun g1=>?_)
  ·conv=>whnf
   exact bH (by rw[<-aD];have: ¬(row.length:Int)=wide:=by simpa using g1
                simp[this])
  ·have:(row.length:Int)=wide:=by simpa using g1
   rw[show decide ((row.length:Int)=wide)=true by simp[this],aX]at aD;conv=>whnf
   exact⟨m-1,by omega,j+1,by omega,aQ j (by omega),aD⟩
 ·have bq:j=z.length:=by
   have: ¬j<z.length:=by simpa using h1
   omega
  subst bq;rw[aL,List.all_nil,aX]at aD;conv=>whnf
  refine⟨_,h2 _,?_⟩;conv=>whnf
  refine ae (fun g1=>?_) (fun g1=>?_)
  ·conv=>whnf
   exact bH (by rw[<-aD,g1])
  ·conv=>whnf
   exact bH (by rw[<-aD,g1])
theorem R8(hp:bV pr)(z:List Item)(wide:Int)(hz:gi z):dm pr 27 [aE.enc z,i64 wide] (.bool (rR z wide)):=by
 have h2:=gu hp z hz;have hl:=hz.1;unfold cM at hl;generalize hR:rR z wide=R;unfold rR at hR;refine ea hp rfl rfl ?_;have S:ah [] []:=ah.nil [];conv=>whnf
 refine ga (fun m tm hp=>∃(j:Nat),j+m=z.length/\tm 5=i64 (j:Nat)/\(((z.drop j).all (fun x=>decide (1<=x.w)&&decide ((x.row.length:Int)=wide))&&c7 z)=R)) (fun m tm hq bz hI=>?_) (z.length) ⟨0,by simp,(by first|rfl|kernel_rfl|simp),(hR)⟩;obtain⟨j,hj,e5,aD⟩:=hI;have k0:=bz 0 (by kernel_rfl);conv at k0=>rhs;whnf
 rw[<-aP k0];have k1:=bz 1 (by kernel_rfl);conv at k1=>rhs;whnf
 rw[<-aP k1];rw[<-aP e5];clear bz k0 k1 e5;have S:ah hq []:=ah.nil hq;conv=>whnf
 refine ae (fun h1=>?_) (fun h1=>?_)
 ·have bq:j<z.length:=by simpa using h1
  have cx:(z.map Item.enc)[((j:Nat):Int).toNat]?=some (Item.enc z[j]):=by rw[aq];simp[bq]
  rw[ar bq,List.all_cons]at aD;generalize z[j]=x at cx aD;obtain⟨row,w⟩:=x;simp only at aD;conv=>whnf
  refine⟨_,cx,by omega,rfl,?_⟩;conv=>whnf
  refine ae (fun g0=>?_) (fun g0=>?_)
  ·conv=>whnf
   exact bH (by rw[<-aD];have: ¬1<=w:=by simp at g0;omega
                simp[this])
  ·have g0':1<=w:=by simp at g0;omega
   rw[show decide (1<=w)=true by simp[g0'],aX]at aD;conv=>whnf
   refine⟨_,cx,by omega,rfl,?_⟩;conv=>whnf
   refine ae (fun g1=>?_) (fun g1=>?_)
   ·conv=>whnf
    exact bH (by rw[<-aD];have: ¬(row.length:Int)=wide:=by simpa using g1
                 simp[this])
   ·have:(row.length:Int)=wide:=by simpa using g1
    rw[show decide ((row.length:Int)=wide)=true by simp[this],aX]at aD;conv=>whnf
    exact⟨m-1,by omega,j+1,by omega,aQ j (by omega),aD⟩
 ·have bq:j=z.length:=by
   have: ¬j<z.length:=by simpa using h1
   omega
  subst bq;rw[aL,List.all_nil,aX]at aD;conv=>whnf
  refine⟨_,h2 _,?_⟩;conv=>whnf
  refine ae (fun g1=>?_) (fun g1=>?_)
  ·conv=>whnf
   exact bH (by rw[<-aD,g1])
  ·conv=>whnf
   exact bH (by rw[<-aD,g1])
theorem K6(hp:bV pr)(a b:Int):dm pr 21 [i64 a,i64 b] (i64 (if a>b then a else b)):=by
 refine ea hp rfl rfl ?_;have S:ah [] []:=ah.nil []
 iterate 4
  all_goals(try(conv=>whnf))
  all_goals(first|(intro ke cg er bn;replace S:=S.alloc er bn)|(refine .inl ⟨_,S.row 0 rfl,rfl,?_⟩)|(refine⟨_,rfl,rfl,rfl,.inl ⟨_,S.row 0 rfl,rfl,?_⟩⟩;(conv=>whnf);intro cg bn;replace S:=S.w0 bn)|(refine ae (fun hb=>?_) (fun hb=>?_))|skip)
 all_goals(try(conv=>whnf))
 all_goals exact dO (by simp_all;try omega)
theorem MU(hp:bV pr)(f:bA)(ht:f.d.eX<=1048576):dm pr 61 [f.enc] (.bool (fit f.dx&&lT 6 f)):=by
 have h2:=P1 hp 6 f ht (by omega);obtain⟨⟨aw,n,aA,cells,a,b,ao,agg,c,al⟩,l,r,ks⟩:=f;have h1:=RX hp (.mk aw n aA cells a b ao agg c al) (by rw[jv]at ht;unfold ax.small;omega);refine ea hp rfl rfl ?_;have S:ah [] []:=ah.nil [];conv=>whnf
 intro k1 a1 dw dC;replace S:=S.alloc dw dC;conv=>whnf
 refine aI (S.row 0 rfl) ?_;conv=>whnf
 refine⟨_,h1 _,?_⟩;conv=>whnf
 refine ae (fun g1=>?_) (fun g1=>?_)
 ·conv=>whnf
  refine aI (S.row 0 rfl) ?_;conv=>whnf
  refine⟨_,h2 _,?_⟩;conv=>whnf
  refine ae (fun g2=>?_) (fun g2=>?_)
  ·conv=>whnf
   exact bH (by simp only[bA.dx];rw[g1,g2];rfl)
  ·conv=>whnf
   exact bH (by simp only[bA.dx];rw[g1,g2];rfl)
 ·conv=>whnf
  exact bH (by simp only[bA.dx];rw[g1];rfl)
theorem nD(v:View):v.d.eX=v.fM.d.eX+(aE.d v.base).eX+(v.aZ.length+ba.eQ (v.aZ.map cC.d)):=by
 simp only[View.d,ba.eX,ba.eQ,aO];omega
theorem oA{z:List Item}(h:(aE.d z).eX<=1048576):gi z:=by
 simp only[aE.d,ba.eX,aO]at h;refine⟨by simp[cM];omega,fun x hx=>?_⟩;have h2:=ed (f:=Item.d) hx;rw[Item.eX]at h2;simp[cM];omega
theorem qB{ps:List cC}(h:ba.eQ (ps.map cC.d)<=1048576): ∀p∈ps,gi p.out:=fun p hp=>by
 have:=ed (f:=cC.d) hp;refine oA ?_;simp only[cC.d,ba.eX,ba.eQ]at this;simp only[aE.d,ba.eX]at this⊢;omega
def dG(lo now wide:Int):Option Int->List cC->Bool
 |_,[]=>true
 |q,p::ps=>(decide (lo<p.cA)&&(decide (p.cA<=now)&&(iv p.out wide&&(match q with|none=>true|some q=>decide (q<p.cA)))))&&dG lo now wide (some p.cA) ps
def wK(fo:Bool)(wide lo now bF:Int)(base:List Item)(aZ:List cC):Bool:=
 fo&&(decide (1<=wide)&&(decide (0<=bF)&&(decide (bF<=now)&&(iv base wide&&(decide (aZ.length<=40)&&dG lo now wide none aZ)))))
def fD(ws:List Int)(now keep:Int)(v:View):Bool:=
 wK (fit v.fM.dx&&lT 6 v.fM) (dq v.fM.dx ws) (if v.bF>keep then v.bF else keep) now v.bF v.base v.aZ
def wL(ps:List cC):Option Int:=ps.getLast?.map cC.cA
theorem xS{z:List cC}{j:Nat}(h:j<z.length):wL (z.take (j+1))=some z[j].cA:=by
 unfold wL;rw[show z.take (j+1)=z.take j++[z[j]] by rw[List.take_add_one];simp[h],List.getLast?_concat];rfl
theorem P2(hp:bV pr)(v:View)(s:bJ)(ht:v.d.eX<=1048576):dm pr 28 [v.enc,s.enc] (.bool (fD s.bc s.now s.keep v)):=by
 rw[nD]at ht;obtain⟨f,bF,base,aZ⟩:=v;obtain⟨bc,aF,aK,now,keep⟩:=s;simp only at ht;have hf:=MU hp f (by omega);obtain⟨⟨aw,n,aA,cells,a,b,ao,agg,c,al⟩,l,r,ks⟩:=f;have hw:=ox hp (.mk aw n aA cells a b ao agg c al) bc (by rw[jv]at ht;unfold ax.small;omega);have Ti:=fun w=>Aj hp base w (oA (by omega));have qV:=fun(x:cC)(hx:x∈aZ) w=>Aj hp x.out w (qB (by omega) x hx);have R9:=K6 hp bF keep;have yt:aZ.length<=1048576:=by omega
 clear ht;unfold fD;simp only[bA.dx]at hf⊢;generalize dq (ax.mk aw n aA cells a b ao agg c al) bc=wide at hw⊢;generalize HP:(fit (ax.mk aw n aA cells a b ao agg c al)&&lT 6 (bA.mk (ax.mk aw n aA cells a b ao agg c al) l r ks))=fo at hf⊢;clear HP;generalize(if bF>keep then bF else keep)=lo at R9⊢;generalize hR:wK fo wide lo now bF base aZ=R;unfold wK at hR;refine ea hp rfl rfl ?_;have S:ah [] []:=ah.nil [];conv=>whnf
 intro k1 a1 dw dC;replace S:=S.alloc dw dC;clear dw dC;conv=>whnf
 intro k2 a2 jf iB;replace S:=S.alloc jf iB;clear jf iB;have S0:ah a2 [.row k2 (.box (bJ.mk bc aF aK now keep).enc),.row k1 (.box (View.mk (.mk (.mk aw n aA cells a b ao agg c al) l r ks) bF base aZ).enc)]:=S;clear S;have S:=S0;clear S0
 iterate 20
  all_goals(try(conv=>whnf))
  all_goals(first|(intro ke cg er bn;replace S:=S.alloc er bn)|(refine .inl ⟨_,S.row 0 rfl,rfl,?_⟩)|(refine .inl ⟨_,S.row 1 rfl,rfl,?_⟩)|(refine⟨_,rfl,rfl,rfl,.inl ⟨_,S.row 0 rfl,rfl,?_⟩⟩;(conv=>whnf);intro cg bn;replace S:=S.w0 bn)|(refine⟨_,rfl,rfl,rfl,.inl ⟨_,S.row 1 rfl,rfl,?_⟩⟩;(conv=>whnf);intro cg bn;replace S:=S.w1 bn)|(refine ae (fun hb=>?_) (fun hb=>?_))|(refine⟨_,hw _,?_⟩)|(refine⟨_,hf _,?_⟩)|(refine⟨_,Ti _ _,?_⟩)|skip)
 all_goals(try(conv=>whnf))
 all_goals first
  |exact bH (by rw[<-hR];clear hR hf hw Ti qV R9 S;first|(simp_all;done)|(simp_all;omega)|(simp_all;intros;omega))
  |skip
 all_goals
  have aD:dG lo now wide none aZ=R:=by rw[<-hR];clear hR hf hw Ti qV R9 S;first|(simp_all;done)|(simp_all;omega)|(simp_all;intros;omega)
  clear hR hf hw Ti;refine ga (fun m tm hp=>∃(j:Nat),j+m=aZ.length/\tm 6=i64 (j:Nat)/\ah hp [.row k2 (.box (bJ.mk bc aF aK now keep).enc),.row k1 (.box (View.mk (.mk (.mk aw n aA cells a b ao agg c al) l r ks) bF base aZ).enc)]/\(dG lo now wide (wL (aZ.take j)) (aZ.drop j)=R)) (fun m tm hq bz hI=>?_) (aZ.length) ⟨0,by simp,(by first|rfl|kernel_rfl|simp),S,((by simpa[wL]using aD))⟩;obtain⟨j,hj,e6,S2,aD⟩:=hI;have k2:=bz 2 (by kernel_rfl);conv at k2=>rhs;whnf
  rw[<-aP k2];have k3:=bz 3 (by kernel_rfl);conv at k3=>rhs;whnf
  rw[<-aP k3];have k5:=bz 5 (by kernel_rfl);conv at k5=>rhs;whnf
  rw[<-aP k5];rw[<-aP e6];clear bz k2 k3 k5 e6;clear S;have S:=S2;clear S2;conv=>whnf
  have fw:j<4611686018427387904:=by omega
  refine aI (S.row 1 rfl) ?_;conv=>whnf
  refine ae (fun h1=>?_) (fun h1=>?_)
  ·have bq:j<aZ.length:=by simpa using h1
   have cx:(aZ.map cC.enc)[((j:Nat):Int).toNat]?=some (cC.enc aZ[j]):=by rw[aq];simp[bq]
   have eC:=xS bq;rw[ar bq]at aD;simp only[dG]at aD;have h2:=qV _ (ay bq) wide
   cases j with
   |zero=>
    have gZ:wL (aZ.take 0)=none:=by simp[wL]
    rw[gZ]at aD;generalize aZ[0]=x at cx aD eC h2;obtain⟨t,out⟩:=x;simp only at aD eC h2;conv=>whnf
    refine aI (S.row 1 rfl) ?_;conv=>whnf
    refine⟨_,cx,by omega,rfl,?_⟩
    iterate 18
     all_goals(try(conv=>whnf))
     all_goals(first|(intro ke cg er bn;replace S:=S.alloc er bn)|(refine .inl ⟨_,S.row 0 rfl,rfl,?_⟩)|(refine .inl ⟨_,S.row 1 rfl,rfl,?_⟩)|(refine .inl ⟨_,S.row 2 rfl,rfl,?_⟩)|(refine⟨_,rfl,rfl,rfl,.inl ⟨_,S.row 0 rfl,rfl,?_⟩⟩;(conv=>whnf);intro cg bn;replace S:=S.w0 bn)|(refine⟨_,rfl,rfl,rfl,.inl ⟨_,S.row 1 rfl,rfl,?_⟩⟩;(conv=>whnf);intro cg bn;replace S:=S.w1 bn)|(refine⟨_,rfl,rfl,rfl,.inl ⟨_,S.row 2 rfl,rfl,?_⟩⟩;(conv=>whnf);intro cg bn;replace S:=S.w2 bn)|(refine ae (fun hb=>?_) (fun hb=>?_))|(refine⟨_,h2 _,?_⟩)|(refine⟨_,R9 _,?_⟩)|skip)
    all_goals(try(conv=>whnf))
    all_goals first
     |exact bH (by rw[<-aD];clear cx eC h2 qV R9 S aD;first|(simp_all;done)|(simp_all;omega)|(simp_all;intros;omega))
     |exact⟨m-1,by omega,1,by omega,aQ 0 (by omega),S.drop 0,by rw[eC,<-aD];clear cx eC h2 qV R9 S aD;first|(simp_all;done)|(simp_all;omega)|(simp_all;intros;omega)⟩
   |succ i=>
    have gZ:=xS (z:=aZ) (j:=i) (by omega);rw[gZ]at aD;have hw:IntKind.i64.wrap (((i+1:Nat):Int)-1)=(i:Nat):=by rw[aY];omega
    have qR:(aZ.map cC.enc)[(IntKind.i64.wrap (((i+1:Nat):Int)-1)).toNat]?=some (cC.enc aZ[i]):=by rw[hw,aq];simp[show i<aZ.length by omega]
    generalize aZ[i+1]=x at cx aD eC h2;generalize aZ[i]=y at qR aD gZ;obtain⟨t,out⟩:=x;obtain⟨t2,adV⟩:=y;simp only at aD eC h2;conv=>whnf
    refine aI (S.row 1 rfl) ?_;conv=>whnf
    refine⟨_,cx,by omega,rfl,?_⟩
    iterate 24
     all_goals(try(conv=>whnf))
     all_goals(first|(refine⟨_,qR,by omega,rfl,?_⟩)|(intro ke cg er bn;replace S:=S.alloc er bn)|(refine .inl ⟨_,S.row 0 rfl,rfl,?_⟩)|(refine .inl ⟨_,S.row 1 rfl,rfl,?_⟩)|(refine .inl ⟨_,S.row 2 rfl,rfl,?_⟩)|(refine⟨_,rfl,rfl,rfl,.inl ⟨_,S.row 0 rfl,rfl,?_⟩⟩;(conv=>whnf);intro cg bn;replace S:=S.w0 bn)|(refine⟨_,rfl,rfl,rfl,.inl ⟨_,S.row 1 rfl,rfl,?_⟩⟩;(conv=>whnf);intro cg bn;replace S:=S.w1 bn)|(refine⟨_,rfl,rfl,rfl,.inl ⟨_,S.row 2 rfl,rfl,?_⟩⟩;(conv=>whnf);intro cg bn;replace S:=S.w2 bn)|(refine ae (fun hb=>?_) (fun hb=>?_))|(refine⟨_,h2 _,?_⟩)|(refine⟨_,R9 _,?_⟩)|skip)
    all_goals(try(conv=>whnf))
    all_goals first
     |exact bH (by rw[<-aD];clear cx qR eC h2 qV R9 S aD hw gZ;first|(simp_all;done)|(simp_all;omega)|(simp_all;intros;omega))
     |exact⟨m-1,by omega,i+1+1,by omega,aQ (i+1) fw,S.drop 0,by rw[eC,<-aD];clear cx qR eC h2 qV R9 S aD hw gZ;first|(simp_all;done)|(simp_all;omega)|(simp_all;intros;omega)⟩
  ·have bq:j=aZ.length:=by
    have: ¬j<aZ.length:=by simpa using h1
    omega
   subst bq;rw[aL]at aD;conv=>whnf
   exact bH (by rw[<-aD];simp[dG])
theorem d5(s:bJ):s.d.eX=s.bc.length+(bM.d s.aF).eX+(s.aK.length+ba.eQ (s.aK.map View.d)):=by
 simp only[bJ.d,gq.d,ba.eX,ba.eQ,aO,FW];omega
def iw:List Int->List (List Item)->Bool
 |w::ws,t::ts=>(decide (1<=w)&&(decide (w<=6)&&rR t w))&&iw ws ts
 |_,_=>true
theorem JC{ws:List Int}{ts:List (List Item)}{j:Nat}(h1:j<ws.length)(h2:j<ts.length):iw (ws.drop j) (ts.drop j)=((decide (1<=ws[j])&&(decide (ws[j]<=6)&&rR ts[j] ws[j]))&&iw (ws.drop (j+1)) (ts.drop (j+1))):=by
 rw[ar h1,ar h2,iw]
def cu(s:bJ):Bool:=
 decide (s.bc.length<=3)&&(decide (s.aF.length=s.bc.length)&&(decide (s.aK.length<=3)&&(decide (0<=s.keep)&&(decide (s.keep<=s.now)&&(decide (s.now<=40)&&(iw s.bc s.aF&&s.aK.all (fD s.bc s.now s.keep)))))))
theorem nE{l:List (List Item)}(h:(bM.d l).eX<=1048576): ∀z∈l,gi z:=(jR h).2
theorem jS(hp:bV pr)(s:bJ)(ht:s.d.eX<=1048576):dm pr 9 [s.enc] (.bool (cu s)):=by
 rw[d5]at ht;have sF: ∀v∈s.aK,dm pr 28 [v.enc,s.enc] (.bool (fD s.bc s.now s.keep v)):=fun v hv=>P2 hp v s (by have:=ed (f:=View.d) hv;omega);obtain⟨bc,aF,aK,now,keep⟩:=s;simp only at ht sF;have MV:=fun(z:List Item)(hz:z∈aF) w=>R8 hp z w (nE (by omega) z hz);have wh:aK.length<=1048576:=by omega
 clear ht;generalize hR:cu ⟨bc,aF,aK,now,keep⟩=R;simp only[cu]at hR;refine ea hp rfl rfl ?_;have S:ah [] []:=ah.nil [];conv=>whnf
 intro k1 a1 dw dC;replace S:=S.alloc dw dC;clear dw dC;have S0:ah a1 [.row k1 (.box (bJ.mk bc aF aK now keep).enc)]:=S;clear S;have S:=S0;clear S0
 iterate 20
  all_goals(try(conv=>whnf))
  all_goals(first|(intro ke cg er bn;replace S:=S.alloc er bn)|(refine .inl ⟨_,S.row 0 rfl,rfl,?_⟩)|(refine⟨_,rfl,rfl,rfl,.inl ⟨_,S.row 0 rfl,rfl,?_⟩⟩;(conv=>whnf);intro cg bn;replace S:=S.w0 bn)|(refine ae (fun hb=>?_) (fun hb=>?_))|skip)
 all_goals(try(conv=>whnf))
 all_goals first
  |exact bH (by rw[<-hR];clear hR MV sF S;first|(simp_all;done)|(simp_all;omega)|(simp_all;intros;omega))
  |skip
 all_goals
  have hlen:aF.length=bc.length:=by clear hR MV sF S;simp_all;omega
  have hw3:bc.length<=3:=by clear hR MV sF S;simp_all;omega
  have aD:(iw bc aF&&aK.all (fD bc now keep))=R:=by rw[<-hR];clear hR MV sF S;first|(simp_all;done)|(simp_all;omega)|(simp_all;intros;omega)
  clear hR;refine ga (fun m tm hp=>∃(j:Nat),j+m=bc.length/\tm 3=i64 (j:Nat)/\ah hp [.row k1 (.box (bJ.mk bc aF aK now keep).enc)]/\((iw (bc.drop j) (aF.drop j)&&aK.all (fD bc now keep))=R)) (fun m tm hq bz hI=>?_) (bc.length) ⟨0,by simp,(by first|rfl|kernel_rfl|simp),S,(aD)⟩;obtain⟨j,hj,e3,S2,aD⟩:=hI;have k1:=bz 1 (by kernel_rfl);conv at k1=>rhs;whnf
  rw[<-aP k1];rw[<-aP e3];clear bz k1 e3;clear S;have S:=S2;clear S2;conv=>whnf
  refine aI (S.row 0 rfl) ?_;conv=>whnf
  refine ae (fun h1=>?_) (fun h1=>?_)
  ·have bq:j<bc.length:=by simpa using h1
   have cx:(bc.map i64)[((j:Nat):Int).toNat]?=some (i64 bc[j]):=by rw[aq];simp[bq]
   have VD:j<aF.length:=by omega
   have QT:(aF.map aE.enc)[((j:Nat):Int).toNat]?=some (aE.enc aF[j]):=by rw[aq];simp[VD]
   rw[JC bq VD]at aD;have h2:=MV _ (ay VD) bc[j];generalize bc[j]=w at cx aD h2;generalize aF[j]=z at QT aD h2
   iterate 12
    all_goals(try(conv=>whnf))
    all_goals(first|(refine⟨_,cx,by omega,rfl,?_⟩)|(refine⟨_,QT,by omega,rfl,?_⟩)|(intro ke cg er bn;replace S:=S.alloc er bn)|(refine .inl ⟨_,S.row 0 rfl,rfl,?_⟩)|(refine⟨_,rfl,rfl,rfl,.inl ⟨_,S.row 0 rfl,rfl,?_⟩⟩;(conv=>whnf);intro cg bn;replace S:=S.w0 bn)|(refine ae (fun hb=>?_) (fun hb=>?_))|(refine⟨_,h2 _,?_⟩)|skip)
   all_goals(try(conv=>whnf))
   all_goals first
    |exact bH (by rw[<-aD];clear cx QT h2 MV sF S aD;first|(simp_all;done)|(simp_all;omega)|(simp_all;intros;omega))
    |exact⟨m-1,by omega,j+1,by omega,aQ j (by omega),S,by rw[<-aD];clear cx QT h2 MV sF S aD;first|(simp_all;done)|(simp_all;omega)|(simp_all;intros;omega)⟩
  ·have bq:j=bc.length:=by
    have: ¬j<bc.length:=by simpa using h1
    omega
   have c8:aK.all (fD bc now keep)=R:=by
    rw[<-aD,bq,aL];simp[iw]
   clear aD h1 hj bq;conv=>whnf
   refine ga (fun m tm hp=>∃(j:Nat),j+m=aK.length/\tm 4=i64 (j:Nat)/\ah hp [.row k1 (.box (bJ.mk bc aF aK now keep).enc)]/\((aK.drop j).all (fD bc now keep)=R)) (fun m tm hq bz hI=>?_) (aK.length) ⟨0,by simp,(by first|rfl|kernel_rfl|simp),S,(c8)⟩;obtain⟨j,hj,e4,S2,aD⟩:=hI;have k1:=bz 1 (by kernel_rfl);conv at k1=>rhs;whnf
   rw[<-aP k1];rw[<-aP e4];clear bz k1 e4;clear S;have S:=S2;clear S2;conv=>whnf
   refine aI (S.row 0 rfl) ?_;conv=>whnf
   refine ae (fun h1=>?_) (fun h1=>?_)
   ·have bq:j<aK.length:=by simpa using h1
    have cx:(aK.map View.enc)[((j:Nat):Int).toNat]?=some (View.enc aK[j]):=by rw[aq];simp[bq]
    rw[ar bq,List.all_cons]at aD;have h2:=sF _ (ay bq);generalize aK[j]=v at cx aD h2;generalize fD bc now keep v=b at aD h2;obtain⟨⟨⟨aw,n,aA,cells,a,b',ao,agg,c,al⟩,l,r,ks⟩,bF,base,aZ⟩:=v;conv=>whnf
    refine aI (S.row 0 rfl) ?_;conv=>whnf
    refine⟨_,cx,by omega,rfl,?_⟩;conv=>whnf
    refine aI (S.row 0 rfl) ?_;conv=>whnf
    refine⟨_,h2 _,?_⟩;conv=>whnf
    refine ae (fun g1=>?_) (fun g1=>?_)
    ·rw[g1,aX]at aD;conv=>whnf
     exact⟨m-1,by omega,j+1,by omega,aQ j (by omega),S,aD⟩
    ·conv=>whnf
     exact bH (by rw[<-aD,g1];rfl)
   ·have bq:j=aK.length:=by
     have: ¬j<aK.length:=by simpa using h1
     omega
    subst bq;rw[aL]at aD;conv=>whnf
    exact bH (by rw[<-aD];rfl)
end Go.Proofs.YtfepbikckfehlaaGreat

/- Two lists of items together: the program's. -/
import Derived.Test.YtfepbikckfehlaaGreatGSPe
import Derived.Test.YtfepbikckfehlaaGreatGH13
import Derived.Test.YtfepbikckfehlaaGreatGH16
set_option linter.unusedVariables false
set_option linter.unusedSimpArgs false
set_option maxHeartbeats 4000000
namespace Go.Proofs.YtfepbikckfehlaaGreat
open Go Go.Am
theorem RA{a b:Int}(h:i64 a=i64 b):a=b:=by cases h;rfl
theorem Pd{a b:Cell}(h:a.enc=b.enc):a=b:=by
 obtain⟨k,x,y,z⟩:=a;obtain⟨k',x',y',z'⟩:=b;simp only[Cell.enc,i64,af.agg.injEq,List.cons.injEq,af.int.injEq,true_and,and_true]at h;obtain⟨rfl,rfl,rfl,rfl⟩:=h;rfl
theorem map_inj{α:Type}{f:α->af}(hf: ∀a b,f a=f b->a=b): ∀(l l':List α),l.map f=l'.map f->l=l'
 | [],[],_=>rfl
 | [],_::_,h=>by simp at h
 |_::_,[],h=>by simp at h
 |a::l,b::l',h=>by
  simp only[aM,List.cons.injEq]at h;rw[hf _ _ h.1,map_inj hf l l' h.2]
theorem Gc{N:Nat}(ih: ∀t t':ax,SizeOf.sizeOf t<=N->t.enc=t'.enc->t=t'): ∀(l l':List ax),SizeOf.sizeOf l<=N+1->ax.cz l=ax.cz l'->l=l'
 | [],[],_,_=>rfl
 | [],_::_,_,h=>by simp[ax.cz]at h
 |_::_,[],_,h=>by simp[ax.cz]at h
 |a::l,b::l',hs,h=>by
  simp only[ax.cz,List.cons.injEq]at h;simp at hs;rw[ih a b (by omega) h.1,Gc ih l l' (by omega) h.2]
theorem Pe: ∀(N:Nat)(t t':ax),SizeOf.sizeOf t<=N->t.enc=t'.enc->t=t':=by
 intro N
 induction N with
 |zero=>intro t t' h;cases t;simp at h
 |succ N ih=>
  intro t t' hs h;obtain⟨aw,n,⟨tk,tn,⟨a1,a2,a3,a4⟩,⟨b1,b2,b3,b4⟩⟩,cells,a,b,ao,agg,col,al⟩:=t;obtain⟨cd,n',⟨RB,Wt,⟨a1',Md,a3',a4'⟩,⟨b1',b2',b3',b4'⟩⟩,bK,a',b',cm,cX,jb,bU⟩:=t';simp only[ax.enc,i64,af.agg.injEq,List.cons.injEq,af.int.injEq,af.bool.injEq,af.sl.injEq,true_and,and_true]at h;obtain⟨rfl,rfl,rfl,rfl,rfl,rfl,rfl,rfl,rfl,rfl,rfl,rfl,hc,rfl,rfl,hk,rfl,rfl,yd⟩:=h;rw[map_inj (fun _ _=>Pd) _ _ hc,map_inj (fun _ _=>RA) _ _ hk,Gc ih al bU (by simp at hs;omega) yd]
theorem RC{t t':ax}(h:t.enc=t'.enc):t=t':=Pe _ t t' (aB _) h
open Classical in
noncomputable def rH(args:List af)(h:aC):Option dz:=
 if hx: ∃t:ax,t.small/\args=[t.enc]/\h=[]then some (.ret (.bool (kE hx.choose)) [])else none
theorem Bj{t:ax}(ht:t.small):rH [t.enc] []=some (.ret (.bool (kE t)) []):=by
 have hx: ∃t':ax,t'.small/\[t.enc]=[t'.enc]/\([]:aC)=[]:=⟨t,ht,rfl,rfl⟩;unfold rH;rw[dif_pos hx];have:hx.choose=t:=(RC (by simpa using hx.choose_spec.2.1)).symm;rw[this]
noncomputable def RE:bL:=fun f=>if f==29 then some rH else QD f
theorem Gd{f g:FuncId}(h:plain f=true)(hg:plain g=false):(f==g)=false:=by
 cases hc:f==g with
 |false=>rfl
 |true=>
  have:f=g:=by simpa using hc
  subst this;rw[hg]at h;cases h
theorem ok1:bV RE:=⟨fun f h=>by
 unfold RE;rw[Gd h (g:=29) (by rfl)];exact B6 h⟩
theorem KJ(f:FuncId)(h:bad f=true):RE f≠none:=by
 unfold RE;split
 ·exact fun e=>by cases e
 ·exact KH f h
theorem RF{f:FuncId}{args:List af}{r:af}(hs:r.isScalar=true)(hc:ik cf none f args [] Gb fun v _ _=>v=r){E:Env}{w:World}{vs:Array Value}(s:dL E [] w)(hf:Full E [])(hg:sE gV E.S w)(hr:fS E w args vs):
  Calls Tryz.prog f vs w (uo E [] w (.ret r [])):=by
   refine Calls.mono (hc E w vs s hf hg hr trivial) fun e w' he=>?_
   cases e with
   |panicked ch=>exact he.elim
   |outgrown=>exact he.elim
   |returned u=>
    obtain⟨v,h',g',E',rfl,s',f',x',r',_⟩:=he;have V4: ∀b,¬E.im b:=fun b⟨id,sl,h1,_⟩=>by rw[hf id (Nat.zero_le _)]at h1;cases h1
    obtain⟨s2,x2⟩:=s.grow (w':=w') (fun b hb=>x'.mem b hb (V4 b) id) x'.size x'.os x'.tape x'.output;exact⟨v,[],E,rfl,s2,hf,x2,.eG (r'.closed hs _ _)⟩
theorem Tb:uA (du RE):=Dl KJ fun f p args h r hp hr E w vs hb s hf hg kz=>by
 unfold RE at hp;split at hp
 ·rename_i e;have:f=29:=by simpa using e
  subst this;cases hp
  unfold rH at hr;split at hr
  ·rename_i hx;cases hr
   obtain⟨h1,h2,rfl⟩:=hx.choose_spec;have key: ∀xs,xs=[hx.choose.enc]->ik cf none 29 xs [] Gb fun v _ _=>v= .bool (kE hx.choose):=fun xs e=>by rw[e];exact Pc _ h1
   exact RF rfl (key args h2) s hf hg kz
  ·cases hr
 ·rw[FY hp]at hr;cases hr
end Go.Proofs.YtfepbikckfehlaaGreat
set_option maxHeartbeats 4000000
namespace Go.Am
open Go
end Go.Am
namespace Go.Proofs.YtfepbikckfehlaaGreat
open Go Go.Am
set_option maxRecDepth 100000
theorem RG(h:aC):ik cf none 89 [.sl []] h Gb fun v h' _=>v= .nil/\h'=h:=by
 refine sm (IX:=Uj) (uB O4) (by kernel_rfl) fun B=>?_;conv=>whnf
 intro b;conv=>whnf
 refine ae (fun hb=>?_) (fun hb=>?_)
 ·conv=>whnf
  exact⟨_,rfl,rfl,rfl⟩
 ·conv=>whnf
  refine⟨trivial,?_⟩;conv=>whnf
  refine⟨rfl,?_⟩;conv=>whnf
  exact⟨_,rfl,rfl,rfl⟩
theorem Pf{f:FuncId}{h:aC}(hc:ik cf none f [.sl []] h Gb fun v h' _=>v= .nil/\h'=h){E:Env}{w:World}{vs:Array Value}(s:dL E h w)(hf:Full E h)(hg:sE gV E.S w)(hr:fS E w [.sl []] vs):
  Calls Tryz.prog f vs w (uo E h w (.ret .nil h)):=by
   refine Calls.mono (hc E w vs s hf hg hr trivial) fun e w' he=>?_
   cases e with
   |panicked ch=>exact he.elim
   |outgrown=>exact he.elim
   |returned u=>
    obtain⟨v,h',g',E',⟨rfl,rfl⟩,s',f',x',r',_⟩:=he;exact⟨.nil,_,E',rfl,s',f',⟨⟨x'.S,x'.SN,fun b h1 h2=>x'.mem b h1 h2 id,x'.m,x'.new,x'.len,x'.size,x'.os,x'.tape,x'.output⟩,x'.fresh⟩,r'⟩
noncomputable def uN(f:FuncId)(args:List af)(h:aC):Option dz:=match args with
 | [.sl []]=>some (.ret .nil h)
 |_=>call (du RE) f args h
noncomputable def Ge:bL:=fun f=>
 if f==89 then some (uN f)else RE f
theorem ok2:bV Ge:=⟨fun f h=>by
 unfold Ge;rw[Gd h (g:=89) (by rfl)];exact ok1.out f h⟩
theorem RH(f:FuncId)(h:bad f=true):Ge f≠none:=by
 unfold Ge
 repeat' split
 all_goals first
  |exact KJ f h
  |exact fun e=>by cases e
theorem Me(t:ax)(ht:t.small):dm Ge 29 [t.enc] (.bool (kE t)):=by
 refine OG (p:=rH) rfl rfl ?_ (Bj ht) rfl;obtain⟨aw,n,aA,cells,a,b,ao,agg,col,al⟩:=t;rfl
theorem IZ{f:FuncId}(hy: ∀h,ik cf none f [.sl []] h Gb fun v h' _=>v= .nil/\h'=h){args:List af}{h:aC}{r:dz}(hr:uN f args h=some r)(E:Env)(w:World)(vs:Array Value)(hb:fW Tryz.prog f=true)(s:dL E h w)(hf:Full E h)(hg:sE gV E.S w)(kz:fS E w args vs):
  Calls Tryz.prog f vs w (uo E h w r):=by
   unfold uN at hr;split at hr
   ·cases hr;exact Pf (hy h) s hf hg kz
   ·exact tj Tb f args h r hr E w vs hb s hf hg kz
theorem WW:uA (du Ge):=Dl RH fun f p args h r hp hr E w vs hb s hf hg kz=>by
 unfold Ge at hp;split at hp
 ·rename_i e;have:f=89:=by simpa using e
  subst this;cases hp;exact IZ RG hr E w vs hb s hf hg kz
 ·exact Tb.Oq f p args h r hp hr E w vs hb s hf hg kz
def RI{α:Type}(f:α->af)(sz:Nat)(pr:bL)(fn:FuncId)(args:List af)(xs:List α):Prop:=∃v h F,call (du pr) fn args []=some (.ret v h)/\i7 f sz h xs v F/\F.Nodup/\(v= .nil∨ ∃id,v= .own id 0 xs.length)
theorem RI.toL{α:Type}{f:α->af}{sz:Nat}{pr:bL}{fn:FuncId}{args:List af}{xs:List α}(h:RI f sz pr fn args xs):LZ f sz pr fn args xs:=by
 obtain⟨v,h,F,h1,h2,h3,_⟩:=h;exact⟨v,h,F,h1,h2,h3⟩
structure B8(pr:bL):Prop extends bV pr where
 size: ∀t:ax,t.small->dm pr 29 [t.enc] (.bool (kE t))
 Pg: ∀xs:List Int,xs.length<=1048576->RI i64 1 pr 89 [.sl (xs.map i64)] xs
theorem Gf{f:FuncId}{p:List af->aC->Option dz}(hp:Ge f=some p)(args:List af)(h:aC):call (du Ge) f args h=p args h:=by
 rw[ub];unfold me;have:(du Ge).pr f=some p:=hp;simp only[this]
theorem RJ(xs:List Int)(hl:xs.length<=1048576):RI i64 1 Ge 89 [.sl (xs.map i64)] xs:=by
 cases xs with
 |nil=>exact⟨.nil,[],[],by rw[Gf (p:=uN _) rfl];rfl,.inl ⟨rfl,rfl,.inl rfl⟩,by simp,.inl rfl⟩
 |cons x xs=>
  suffices hw:Wz (du RE) 89 [.sl ((x::xs).map i64)] [] (fun r=>∃v h F,r= .ret v h/\i7 i64 1 h (x::xs) v F/\F.Nodup/\(v= .nil∨ ∃id,v= .own id 0 (x::xs).length)) by
   obtain⟨r,hr,v,h,F,rfl,h1,h2,h3⟩:=BW rfl hw;exact⟨v,h,F,by rw[Gf (p:=uN _) rfl];exact hr,h1,h2,h3⟩
  conv=>whnf
  refine⟨trivial,?_⟩;conv=>whnf
  refine⟨?_,?_⟩
  ·rw[aG];intro y hy;obtain⟨z,_,rfl⟩:=bj.1 hy;rfl
  conv=>whnf
  refine⟨by simp[br]at hl⊢;omega,?_⟩;conv=>whnf
  exact⟨_,_,[0],rfl,.inr ⟨0,by simp;rfl,rfl,rfl⟩,by simp,.inr ⟨0,by simp;rfl⟩⟩
theorem ZH:B8 Ge where
 tobV:=ok2
 size:=Me
 Pg:=RJ
end Go.Proofs.YtfepbikckfehlaaGreat
set_option maxHeartbeats 4000000
namespace Go.Proofs.YtfepbikckfehlaaGreat
open Go Go.Am
variable{pr:bL}(hp:bV pr)
set_option maxRecDepth 100000
def qg(x y:Item):Bool:=x.w==y.w&&eS x.row y.row
def Mf:af:=.func (.func 25) [] []
theorem I0(hp:bV pr)(x y:Item)(hx:x.row.length<=cM):dm pr 25 [x.enc,y.enc] (.bool (qg x y)):=by
 have h:=IV hp x.row y.row hx;obtain⟨r,w⟩:=x;obtain⟨r2,w2⟩:=y;refine ea hp rfl rfl ?_;have S:ah [] []:=ah.nil []
 iterate 9
  all_goals(try(conv=>whnf))
  all_goals(first|(intro ke cg er bn;replace S:=S.alloc er bn)|(refine .inl ⟨_,S.row 0 rfl,rfl,?_⟩)|(refine .inl ⟨_,S.row 1 rfl,rfl,?_⟩)|(refine .inl ⟨_,S.row 2 rfl,rfl,?_⟩)|(refine .inl ⟨_,S.row 3 rfl,rfl,?_⟩)|(refine .inl ⟨_,S.row 4 rfl,rfl,?_⟩)|(refine⟨_,rfl,rfl,rfl,.inl ⟨_,S.row 0 rfl,rfl,?_⟩⟩;(conv=>whnf);intro cg bn;replace S:=S.w0 bn)|(refine⟨_,rfl,rfl,rfl,.inl ⟨_,S.row 1 rfl,rfl,?_⟩⟩;(conv=>whnf);intro cg bn;replace S:=S.w1 bn)|(refine⟨_,rfl,rfl,rfl,.inl ⟨_,S.row 2 rfl,rfl,?_⟩⟩;(conv=>whnf);intro cg bn;replace S:=S.w2 bn)|(refine⟨_,rfl,rfl,rfl,.inl ⟨_,S.row 3 rfl,rfl,?_⟩⟩;(conv=>whnf);intro cg bn;replace S:=S.w3 bn)|(refine⟨_,rfl,rfl,rfl,.inl ⟨_,S.row 4 rfl,rfl,?_⟩⟩;(conv=>whnf);intro cg bn;replace S:=S.w4 bn)|(refine ae (fun hb=>?_) (fun hb=>?_))|(refine⟨_,h _,?_⟩)|skip)
 all_goals exact bH (by clear h hx;simp_all[qg])
theorem Gg(hp:bV pr)(xs ys:List Item)(hx:gi xs):dm pr 24 [.sl (xs.map Item.enc),.sl (ys.map Item.enc),Mf] (.bool (cG qg xs ys)):=by
 obtain⟨hl,hr⟩:=hx;refine ea hp rfl rfl ?_;have S:ah [] []:=ah.nil [];conv=>whnf
 refine ae (fun h0=>?_) (fun h0=>?_)
 ·conv=>whnf
  exact bH (lx (by simp at h0;omega)).symm
 have hlen:xs.length=ys.length:=by simp at h0;omega
 conv=>whnf
 refine ga (fun m tm hp=>∃(j:Nat),j+m=xs.length/\tm 17=i64 (j:Nat)/\(cG qg xs ys=cG qg (xs.drop j) (ys.drop j))) (fun m tm hq bz hI=>?_) (xs.length) ⟨0,by simp,(by first|rfl|kernel_rfl|simp),(rfl)⟩;obtain⟨j,hj,Vx,aD⟩:=hI;have k0:=bz 0 (by kernel_rfl);conv at k0=>rhs;whnf
 rw[<-aP k0];have k1:=bz 1 (by kernel_rfl);conv at k1=>rhs;whnf
 rw[<-aP k1];have k2:=bz 2 (by kernel_rfl);conv at k2=>rhs;whnf
 rw[<-aP k2];have ZI:=bz 15 (by kernel_rfl);conv at ZI=>rhs;whnf
 rw[<-aP ZI];have ZJ:=bz 16 (by kernel_rfl);conv at ZJ=>rhs;whnf
 rw[<-aP ZJ];rw[<-aP Vx];clear bz k0 k1 k2 ZI ZJ Vx;have S:ah hq []:=ah.nil hq;conv=>whnf
 refine ae (fun h1=>?_) (fun h1=>?_)
 ·have bq:j<xs.length:=by simpa using h1
  rw[iU bq (by omega)]at aD;have g1:(xs.map Item.enc)[((j:Nat):Int).toNat]?=some (Item.enc xs[j]):=by rw[aq];simp[bq]
  have g2:(ys.map Item.enc)[((j:Nat):Int).toNat]?=some (Item.enc ys[j]):=by rw[aq];simp[show j<ys.length by omega]
  have h3:=I0 hp xs[j] ys[j] (hr _ (ay bq));generalize xs[j]=x at g1 h3 aD;generalize ys[j]=y at g2 h3 aD;obtain⟨r,w⟩:=x;obtain⟨r2,w2⟩:=y;conv=>whnf
  refine⟨_,g1,by omega,rfl,?_⟩
  iterate 4
   all_goals(try(conv=>whnf))
   all_goals(first|(intro ke cg er bn;replace S:=S.alloc er bn)|(refine .inl ⟨_,S.row 0 rfl,rfl,?_⟩)|(refine .inl ⟨_,S.row 1 rfl,rfl,?_⟩)|(refine .inl ⟨_,S.row 2 rfl,rfl,?_⟩)|(refine .inl ⟨_,S.row 3 rfl,rfl,?_⟩)|(refine .inl ⟨_,S.row 4 rfl,rfl,?_⟩)|(refine⟨_,rfl,rfl,rfl,.inl ⟨_,S.row 0 rfl,rfl,?_⟩⟩;(conv=>whnf);intro cg bn;replace S:=S.w0 bn)|(refine⟨_,rfl,rfl,rfl,.inl ⟨_,S.row 1 rfl,rfl,?_⟩⟩;(conv=>whnf);intro cg bn;replace S:=S.w1 bn)|(refine⟨_,rfl,rfl,rfl,.inl ⟨_,S.row 2 rfl,rfl,?_⟩⟩;(conv=>whnf);intro cg bn;replace S:=S.w2 bn)|(refine⟨_,rfl,rfl,rfl,.inl ⟨_,S.row 3 rfl,rfl,?_⟩⟩;(conv=>whnf);intro cg bn;replace S:=S.w3 bn)|(refine⟨_,rfl,rfl,rfl,.inl ⟨_,S.row 4 rfl,rfl,?_⟩⟩;(conv=>whnf);intro cg bn;replace S:=S.w4 bn)|(refine ae (fun hb=>?_) (fun hb=>?_))|skip)
  refine⟨_,g2,by omega,rfl,?_⟩
  iterate 6
   all_goals(try(conv=>whnf))
   all_goals(first|(intro ke cg er bn;replace S:=S.alloc er bn)|(refine .inl ⟨_,S.row 0 rfl,rfl,?_⟩)|(refine .inl ⟨_,S.row 1 rfl,rfl,?_⟩)|(refine .inl ⟨_,S.row 2 rfl,rfl,?_⟩)|(refine .inl ⟨_,S.row 3 rfl,rfl,?_⟩)|(refine .inl ⟨_,S.row 4 rfl,rfl,?_⟩)|(refine⟨_,rfl,rfl,rfl,.inl ⟨_,S.row 0 rfl,rfl,?_⟩⟩;(conv=>whnf);intro cg bn;replace S:=S.w0 bn)|(refine⟨_,rfl,rfl,rfl,.inl ⟨_,S.row 1 rfl,rfl,?_⟩⟩;(conv=>whnf);intro cg bn;replace S:=S.w1 bn)|(refine⟨_,rfl,rfl,rfl,.inl ⟨_,S.row 2 rfl,rfl,?_⟩⟩;(conv=>whnf);intro cg bn;replace S:=S.w2 bn)|(refine⟨_,rfl,rfl,rfl,.inl ⟨_,S.row 3 rfl,rfl,?_⟩⟩;(conv=>whnf);intro cg bn;replace S:=S.w3 bn)|(refine⟨_,rfl,rfl,rfl,.inl ⟨_,S.row 4 rfl,rfl,?_⟩⟩;(conv=>whnf);intro cg bn;replace S:=S.w4 bn)|(refine ae (fun hb=>?_) (fun hb=>?_))|(refine⟨_,h3 _,?_⟩)|skip)
  all_goals first
   |exact bH (by rw[aD,hb];rfl)
   |exact⟨m-1,by omega,j+1,by omega,aQ j (by simp[cM]at hl;omega),by rw[aD,hb];rfl⟩
 ·have bq:j=xs.length:=by have: ¬j<xs.length:=by simpa using h1
                          omega
  subst bq;rw[jL hlen]at aD;conv=>whnf
  exact bH aD.symm
theorem Ph(hp:bV pr)(xs ys:List Item)(hx:gi xs):dm pr 8 [.sl (xs.map Item.enc),.sl (ys.map Item.enc)] (.bool (cG qg xs ys)):=by
 have h:=Gg hp xs ys hx;refine ea hp rfl rfl ?_;have S:ah [] []:=ah.nil []
 iterate 3
  all_goals(try(conv=>whnf))
  all_goals(first|(intro ke cg er bn;replace S:=S.alloc er bn)|(refine .inl ⟨_,S.row 0 rfl,rfl,?_⟩)|(refine .inl ⟨_,S.row 1 rfl,rfl,?_⟩)|(refine .inl ⟨_,S.row 2 rfl,rfl,?_⟩)|(refine .inl ⟨_,S.row 3 rfl,rfl,?_⟩)|(refine .inl ⟨_,S.row 4 rfl,rfl,?_⟩)|(refine⟨_,rfl,rfl,rfl,.inl ⟨_,S.row 0 rfl,rfl,?_⟩⟩;(conv=>whnf);intro cg bn;replace S:=S.w0 bn)|(refine⟨_,rfl,rfl,rfl,.inl ⟨_,S.row 1 rfl,rfl,?_⟩⟩;(conv=>whnf);intro cg bn;replace S:=S.w1 bn)|(refine⟨_,rfl,rfl,rfl,.inl ⟨_,S.row 2 rfl,rfl,?_⟩⟩;(conv=>whnf);intro cg bn;replace S:=S.w2 bn)|(refine⟨_,rfl,rfl,rfl,.inl ⟨_,S.row 3 rfl,rfl,?_⟩⟩;(conv=>whnf);intro cg bn;replace S:=S.w3 bn)|(refine⟨_,rfl,rfl,rfl,.inl ⟨_,S.row 4 rfl,rfl,?_⟩⟩;(conv=>whnf);intro cg bn;replace S:=S.w4 bn)|(refine ae (fun hb=>?_) (fun hb=>?_))|(refine⟨_,h _,?_⟩)|skip)
 all_goals exact bH hb.symm
def KK(wide:Int):af:=.func (.func 108) [] [.eY [i64 wide] 0 0]
theorem Mg(hp:bV pr)(wide:Int)(x:Item):dm pr 108 ([x.enc]++[.eY [i64 wide] 0 0]) (.bool ((@id (Item->Bool) (fun x:Item=>decide ((x.row.length:Int)≠wide))) x)):=by
 obtain⟨r,w⟩:=x;refine ea hp rfl rfl ?_;have S:ah [] []:=ah.nil []
 iterate 6
  all_goals(try(conv=>whnf))
  all_goals(first|(intro ke cg er bn;replace S:=S.alloc er bn)|(refine .inl ⟨_,S.row 0 rfl,rfl,?_⟩)|(refine .inl ⟨_,S.row 1 rfl,rfl,?_⟩)|(refine .inl ⟨_,S.row 2 rfl,rfl,?_⟩)|(refine .inl ⟨_,S.row 3 rfl,rfl,?_⟩)|(refine .inl ⟨_,S.row 4 rfl,rfl,?_⟩)|(refine⟨_,rfl,rfl,rfl,.inl ⟨_,S.row 0 rfl,rfl,?_⟩⟩;(conv=>whnf);intro cg bn;replace S:=S.w0 bn)|(refine⟨_,rfl,rfl,rfl,.inl ⟨_,S.row 1 rfl,rfl,?_⟩⟩;(conv=>whnf);intro cg bn;replace S:=S.w1 bn)|(refine⟨_,rfl,rfl,rfl,.inl ⟨_,S.row 2 rfl,rfl,?_⟩⟩;(conv=>whnf);intro cg bn;replace S:=S.w2 bn)|(refine⟨_,rfl,rfl,rfl,.inl ⟨_,S.row 3 rfl,rfl,?_⟩⟩;(conv=>whnf);intro cg bn;replace S:=S.w3 bn)|(refine⟨_,rfl,rfl,rfl,.inl ⟨_,S.row 4 rfl,rfl,?_⟩⟩;(conv=>whnf);intro cg bn;replace S:=S.w4 bn)|(refine ae (fun hb=>?_) (fun hb=>?_))|skip)
 all_goals exact bH (by simp_all)
theorem Gh(hp:bV pr)(wide:Int)(xs:List Item)(hl:xs.length<=cM):dm pr 129 [.sl (xs.map Item.enc),KK wide] (i64 (na (fun x:Item=>decide ((x.row.length:Int)≠wide)) 0 xs)):=by
 refine ea hp rfl rfl ?_;have S:ah [] []:=ah.nil [];conv=>whnf
 refine ga (fun m tm hp=>∃(j:Nat),j+m=xs.length/\tm 8=i64 (j:Nat)/\(na (fun x:Item=>decide ((x.row.length:Int)≠wide)) 0 xs=na (fun x:Item=>decide ((x.row.length:Int)≠wide)) (j:Nat) (xs.drop j))) (fun m tm hq bz hI=>?_) (xs.length) ⟨0,by simp,(by first|rfl|kernel_rfl|simp),(by simp)⟩;obtain⟨j,hj,e8,aD⟩:=hI;have k0:=bz 0 (by kernel_rfl);conv at k0=>rhs;whnf
 rw[<-aP k0];have k1:=bz 1 (by kernel_rfl);conv at k1=>rhs;whnf
 rw[<-aP k1];have k7:=bz 7 (by kernel_rfl);conv at k7=>rhs;whnf
 rw[<-aP k7];rw[<-aP e8];clear bz k0 k1 k7 e8;have S:ah hq []:=ah.nil hq;conv=>whnf
 refine ae (fun h1=>?_) (fun h1=>?_)
 ·have bq:j<xs.length:=by simpa using h1
  have g1:(xs.map Item.enc)[((j:Nat):Int).toNat]?=some (Item.enc xs[j]):=by rw[aq];simp[bq]
  have h2:=Mg hp wide xs[j];rw[ar bq]at aD;have aD:na (fun x:Item=>decide ((x.row.length:Int)≠wide)) 0 xs=bif (@id (Item->Bool) (fun x:Item=>decide ((x.row.length:Int)≠wide))) xs[j]then((j:Nat):Int)else na (fun x:Item=>decide ((x.row.length:Int)≠wide)) (((j:Nat):Int)+1) (xs.drop (j+1)):=aD;generalize(@id (Item->Bool) (fun x:Item=>decide ((x.row.length:Int)≠wide))) xs[j]=b at h2 aD;generalize xs[j]=x at g1 h2;obtain⟨r,w⟩:=x;conv=>whnf
  refine⟨_,g1,by omega,rfl,?_⟩;conv=>whnf
  refine⟨_,h2 _,?_⟩;conv=>whnf
  refine ae (fun h3=>?_) (fun h3=>?_)
  ·conv=>whnf
   exact dO (by rw[aD,h3];rfl)
  ·conv=>whnf
   exact⟨m-1,by omega,j+1,by omega,aQ j (by simp[cM]at hl;omega),by rw[aD,h3];rfl⟩
 ·have bq:j=xs.length:=by have: ¬j<xs.length:=by simpa using h1
                          omega
  subst bq;rw[aL]at aD;conv=>whnf
  exact dO (by rw[aD];rfl)
theorem Gi(hp:bV pr)(wide:Int)(xs:List Item)(hl:xs.length<=cM):dm pr 107 [.sl (xs.map Item.enc),KK wide] (.bool (xs.any (fun x:Item=>decide ((x.row.length:Int)≠wide)))):=by
 have h:=Gh hp wide xs hl;rw[<-yw (fun x:Item=>decide ((x.row.length:Int)≠wide)) xs 0 (Int.le_refl 0)];refine ea hp rfl rfl ?_;have S:ah [] []:=ah.nil []
 iterate 3
  all_goals(try(conv=>whnf))
  all_goals(first|(intro ke cg er bn;replace S:=S.alloc er bn)|(refine .inl ⟨_,S.row 0 rfl,rfl,?_⟩)|(refine .inl ⟨_,S.row 1 rfl,rfl,?_⟩)|(refine .inl ⟨_,S.row 2 rfl,rfl,?_⟩)|(refine .inl ⟨_,S.row 3 rfl,rfl,?_⟩)|(refine .inl ⟨_,S.row 4 rfl,rfl,?_⟩)|(refine⟨_,rfl,rfl,rfl,.inl ⟨_,S.row 0 rfl,rfl,?_⟩⟩;(conv=>whnf);intro cg bn;replace S:=S.w0 bn)|(refine⟨_,rfl,rfl,rfl,.inl ⟨_,S.row 1 rfl,rfl,?_⟩⟩;(conv=>whnf);intro cg bn;replace S:=S.w1 bn)|(refine⟨_,rfl,rfl,rfl,.inl ⟨_,S.row 2 rfl,rfl,?_⟩⟩;(conv=>whnf);intro cg bn;replace S:=S.w2 bn)|(refine⟨_,rfl,rfl,rfl,.inl ⟨_,S.row 3 rfl,rfl,?_⟩⟩;(conv=>whnf);intro cg bn;replace S:=S.w3 bn)|(refine⟨_,rfl,rfl,rfl,.inl ⟨_,S.row 4 rfl,rfl,?_⟩⟩;(conv=>whnf);intro cg bn;replace S:=S.w4 bn)|(refine ae (fun hb=>?_) (fun hb=>?_))|(refine⟨_,h _,?_⟩)|skip)
 all_goals exact bH hb.symm
def Pj(wide:Int):af:=.func (.func 109) [] []
theorem Pk(hp:bV pr)(wide:Int)(x:Item):dm pr 109 ([x.enc]++[]) (.bool ((@id (Item->Bool) (fun x:Item=>decide (x.w<0))) x)):=by
 obtain⟨r,w⟩:=x;refine ea hp rfl rfl ?_;have S:ah [] []:=ah.nil []
 iterate 6
  all_goals(try(conv=>whnf))
  all_goals(first|(intro ke cg er bn;replace S:=S.alloc er bn)|(refine .inl ⟨_,S.row 0 rfl,rfl,?_⟩)|(refine .inl ⟨_,S.row 1 rfl,rfl,?_⟩)|(refine .inl ⟨_,S.row 2 rfl,rfl,?_⟩)|(refine .inl ⟨_,S.row 3 rfl,rfl,?_⟩)|(refine .inl ⟨_,S.row 4 rfl,rfl,?_⟩)|(refine⟨_,rfl,rfl,rfl,.inl ⟨_,S.row 0 rfl,rfl,?_⟩⟩;(conv=>whnf);intro cg bn;replace S:=S.w0 bn)|(refine⟨_,rfl,rfl,rfl,.inl ⟨_,S.row 1 rfl,rfl,?_⟩⟩;(conv=>whnf);intro cg bn;replace S:=S.w1 bn)|(refine⟨_,rfl,rfl,rfl,.inl ⟨_,S.row 2 rfl,rfl,?_⟩⟩;(conv=>whnf);intro cg bn;replace S:=S.w2 bn)|(refine⟨_,rfl,rfl,rfl,.inl ⟨_,S.row 3 rfl,rfl,?_⟩⟩;(conv=>whnf);intro cg bn;replace S:=S.w3 bn)|(refine⟨_,rfl,rfl,rfl,.inl ⟨_,S.row 4 rfl,rfl,?_⟩⟩;(conv=>whnf);intro cg bn;replace S:=S.w4 bn)|(refine ae (fun hb=>?_) (fun hb=>?_))|skip)
 all_goals exact bH (by simp_all)
theorem I1(hp:bV pr)(wide:Int)(xs:List Item)(hl:xs.length<=cM):dm pr 129 [.sl (xs.map Item.enc),Pj wide] (i64 (na (fun x:Item=>decide (x.w<0)) 0 xs)):=by
 refine ea hp rfl rfl ?_;have S:ah [] []:=ah.nil [];conv=>whnf
 refine ga (fun m tm hp=>∃(j:Nat),j+m=xs.length/\tm 8=i64 (j:Nat)/\(na (fun x:Item=>decide (x.w<0)) 0 xs=na (fun x:Item=>decide (x.w<0)) (j:Nat) (xs.drop j))) (fun m tm hq bz hI=>?_) (xs.length) ⟨0,by simp,(by first|rfl|kernel_rfl|simp),(by simp)⟩;obtain⟨j,hj,e8,aD⟩:=hI;have k0:=bz 0 (by kernel_rfl);conv at k0=>rhs;whnf
 rw[<-aP k0];have k1:=bz 1 (by kernel_rfl);conv at k1=>rhs;whnf
 rw[<-aP k1];have k7:=bz 7 (by kernel_rfl);conv at k7=>rhs;whnf
 rw[<-aP k7];rw[<-aP e8];clear bz k0 k1 k7 e8;have S:ah hq []:=ah.nil hq;conv=>whnf
 refine ae (fun h1=>?_) (fun h1=>?_)
 ·have bq:j<xs.length:=by simpa using h1
  have g1:(xs.map Item.enc)[((j:Nat):Int).toNat]?=some (Item.enc xs[j]):=by rw[aq];simp[bq]
  have h2:=Pk hp wide xs[j];rw[ar bq]at aD;have aD:na (fun x:Item=>decide (x.w<0)) 0 xs=bif (@id (Item->Bool) (fun x:Item=>decide (x.w<0))) xs[j]then((j:Nat):Int)else na (fun x:Item=>decide (x.w<0)) (((j:Nat):Int)+1) (xs.drop (j+1)):=aD;generalize(@id (Item->Bool) (fun x:Item=>decide (x.w<0))) xs[j]=b at h2 aD;generalize xs[j]=x at g1 h2;obtain⟨r,w⟩:=x;conv=>whnf
  refine⟨_,g1,by omega,rfl,?_⟩;conv=>whnf
  refine⟨_,h2 _,?_⟩;conv=>whnf
  refine ae (fun h3=>?_) (fun h3=>?_)
  ·conv=>whnf
   exact dO (by rw[aD,h3];rfl)
  ·conv=>whnf
   exact⟨m-1,by omega,j+1,by omega,aQ j (by simp[cM]at hl;omega),by rw[aD,h3];rfl⟩
 ·have bq:j=xs.length:=by have: ¬j<xs.length:=by simpa using h1
                          omega
  subst bq;rw[aL]at aD;conv=>whnf
  exact dO (by rw[aD];rfl)
theorem I2(hp:bV pr)(wide:Int)(xs:List Item)(hl:xs.length<=cM):dm pr 107 [.sl (xs.map Item.enc),Pj wide] (.bool (xs.any (fun x:Item=>decide (x.w<0)))):=by
 have h:=I1 hp wide xs hl;rw[<-yw (fun x:Item=>decide (x.w<0)) xs 0 (Int.le_refl 0)];refine ea hp rfl rfl ?_;have S:ah [] []:=ah.nil []
 iterate 3
  all_goals(try(conv=>whnf))
  all_goals(first|(intro ke cg er bn;replace S:=S.alloc er bn)|(refine .inl ⟨_,S.row 0 rfl,rfl,?_⟩)|(refine .inl ⟨_,S.row 1 rfl,rfl,?_⟩)|(refine .inl ⟨_,S.row 2 rfl,rfl,?_⟩)|(refine .inl ⟨_,S.row 3 rfl,rfl,?_⟩)|(refine .inl ⟨_,S.row 4 rfl,rfl,?_⟩)|(refine⟨_,rfl,rfl,rfl,.inl ⟨_,S.row 0 rfl,rfl,?_⟩⟩;(conv=>whnf);intro cg bn;replace S:=S.w0 bn)|(refine⟨_,rfl,rfl,rfl,.inl ⟨_,S.row 1 rfl,rfl,?_⟩⟩;(conv=>whnf);intro cg bn;replace S:=S.w1 bn)|(refine⟨_,rfl,rfl,rfl,.inl ⟨_,S.row 2 rfl,rfl,?_⟩⟩;(conv=>whnf);intro cg bn;replace S:=S.w2 bn)|(refine⟨_,rfl,rfl,rfl,.inl ⟨_,S.row 3 rfl,rfl,?_⟩⟩;(conv=>whnf);intro cg bn;replace S:=S.w3 bn)|(refine⟨_,rfl,rfl,rfl,.inl ⟨_,S.row 4 rfl,rfl,?_⟩⟩;(conv=>whnf);intro cg bn;replace S:=S.w4 bn)|(refine ae (fun hb=>?_) (fun hb=>?_))|(refine⟨_,h _,?_⟩)|skip)
 all_goals exact bH hb.symm
end Go.Proofs.YtfepbikckfehlaaGreat
set_option maxHeartbeats 4000000
namespace Go.Am
open Go
theorem jA{α:Type}{f:α->af}{sz:Nat}{h:aC}{B:List Chunk}{xs ys:List α}{v:af}{K:af->aC->Prop}(S:ah h (.acc f sz xs v::B))(hl:xs.length+ys.length<=br)
  (hK: ∀v' h',(v'= .nil∨ ∃k,v'= .own k 0 (xs++ys).length)->ah h' (.acc f sz (xs++ys) v'::B)->K v' h'):ID h sz v (ys.map f) K:=by
   have h0:m8 f sz h xs v:=S.get 0 rfl
   by_cases hy:ys=[]
   ·subst hy;rcases h0 with⟨rfl,rfl⟩|⟨id,rfl,h1⟩
    ·exact .inl ⟨rfl,hK .nil h (.inl rfl) (by simpa using S)⟩
    ·refine⟨_,h1,rfl,by simp,.inl ⟨rfl,fun h' e=>?_⟩⟩;rw[show(xs.map f).take xs.length=xs.map f by rw[List.take_of_length_le (by simp)],OJ h1]at e;subst e;exact hK (.own id 0 xs.length) _ (.inr ⟨id,by simp⟩) (by simpa using S)
   ·have hyn:ys.map f≠[]:=by simpa using hy
    rcases h0 with⟨rfl,rfl⟩|⟨id,rfl,h1⟩
    ·refine .inr ⟨hyn,by simp at hl⊢;exact hl,fun k h' e1 e2=>?_⟩;have S1:=(S.drop 0).alloc e1 e2;dsimp only[List.eraseIdx]at S1;have S2:=S1.oN 0 (c:=.row k (.arr sz (ys.map f))) (c':=.acc f sz ys (.own k 0 ys.length)) (h':=h') rfl (fun _ _ _=>rfl) (.inr ⟨k,rfl,S1.row 0 rfl⟩) (by simp[Chunk.acc,nT]) (fun id cq=>.inl cq);have:=hK (.own k 0 ys.length) h' (.inr ⟨k,by simp⟩) S2;rw[aO];exact this
    ·refine⟨_,h1,rfl,by simp,.inr ⟨hyn,by simpa using hl,fun k h' e1 e2=>?_⟩⟩;rw[show(xs.map f).take xs.length=xs.map f by rw[List.take_of_length_le (by simp)]]at e2⊢;rw[<-bd]at e2⊢;have S1:=S.oN 0 (c':=.row id .dead) (h':=h.set id .dead) rfl (fun j hj kY=>List.getElem?_set_ne (fun e=>kY (by simp[Chunk.acc,nT,e]))) (fK rfl h1) (by simp[Chunk.row]) (fun j hj=>.inl hj);dsimp only[List.set]at S1;have S2:=(S1.drop 0).alloc (by simpa using e1) e2;dsimp only[List.eraseIdx]at S2;have S3:=S2.oN 0 (c:=.row k (.arr sz ((xs++ys).map f))) (c':=.acc f sz (xs++ys) (.own k 0 (xs++ys).length)) (h':=h') rfl (fun _ _ _=>rfl) (.inr ⟨k,rfl,S2.row 0 rfl⟩) (by simp[Chunk.acc,nT]) (fun id cq=>.inl cq);rw[aO];exact hK _ h' (.inr ⟨k,rfl⟩) S3
end Go.Am
namespace Go.Proofs.YtfepbikckfehlaaGreat
open Go Go.Am
variable{pr:bL}(hp:bV pr)
set_option maxRecDepth 100000
theorem Mh(hp:bV pr)(x y:Item)(hx:x.row.length<=cM)(hy:y.row.length<=cM):dm pr 91 [x.enc,y.enc] (i64 (gW x.row y.row)):=by
 have h:=B4 hp x.row y.row hx hy;obtain⟨r,w⟩:=x;obtain⟨r2,w2⟩:=y;refine ea hp rfl rfl ?_;have S:ah [] []:=ah.nil []
 iterate 9
  all_goals(try(conv=>whnf))
  all_goals(first|(intro ke cg er bn;replace S:=S.alloc er bn)|(refine .inl ⟨_,S.row 0 rfl,rfl,?_⟩)|(refine .inl ⟨_,S.row 1 rfl,rfl,?_⟩)|(refine .inl ⟨_,S.row 2 rfl,rfl,?_⟩)|(refine .inl ⟨_,S.row 3 rfl,rfl,?_⟩)|(refine .inl ⟨_,S.row 4 rfl,rfl,?_⟩)|(refine⟨_,rfl,rfl,rfl,.inl ⟨_,S.row 0 rfl,rfl,?_⟩⟩;(conv=>whnf);intro cg bn;replace S:=S.w0 bn)|(refine⟨_,rfl,rfl,rfl,.inl ⟨_,S.row 1 rfl,rfl,?_⟩⟩;(conv=>whnf);intro cg bn;replace S:=S.w1 bn)|(refine⟨_,rfl,rfl,rfl,.inl ⟨_,S.row 2 rfl,rfl,?_⟩⟩;(conv=>whnf);intro cg bn;replace S:=S.w2 bn)|(refine⟨_,rfl,rfl,rfl,.inl ⟨_,S.row 3 rfl,rfl,?_⟩⟩;(conv=>whnf);intro cg bn;replace S:=S.w3 bn)|(refine⟨_,rfl,rfl,rfl,.inl ⟨_,S.row 4 rfl,rfl,?_⟩⟩;(conv=>whnf);intro cg bn;replace S:=S.w4 bn)|(refine ae (fun hb=>?_) (fun hb=>?_))|(refine⟨_,h _,?_⟩)|skip)
 exact dO rfl
def j8(a b:Int):Int:=IntKind.i64.wrap (a+b)
def Pl(x y:Item):Item:=⟨x.row,j8 x.w y.w⟩
theorem WX(hp:bV pr)(x y:Item):dm pr 92 [x.enc,y.enc] (.dX [(Pl x y).enc,.bool (j8 x.w y.w != 0)]):=by
 obtain⟨r,w⟩:=x;obtain⟨r2,w2⟩:=y;refine ea hp rfl rfl ?_;have S:ah [] []:=ah.nil []
 iterate 12
  all_goals(try(conv=>whnf))
  all_goals(first|(intro ke cg er bn;replace S:=S.alloc er bn)|(refine .inl ⟨_,S.row 0 rfl,rfl,?_⟩)|(refine .inl ⟨_,S.row 1 rfl,rfl,?_⟩)|(refine .inl ⟨_,S.row 2 rfl,rfl,?_⟩)|(refine .inl ⟨_,S.row 3 rfl,rfl,?_⟩)|(refine .inl ⟨_,S.row 4 rfl,rfl,?_⟩)|(refine⟨_,rfl,rfl,rfl,.inl ⟨_,S.row 0 rfl,rfl,?_⟩⟩;(conv=>whnf);intro cg bn;replace S:=S.w0 bn)|(refine⟨_,rfl,rfl,rfl,.inl ⟨_,S.row 1 rfl,rfl,?_⟩⟩;(conv=>whnf);intro cg bn;replace S:=S.w1 bn)|(refine⟨_,rfl,rfl,rfl,.inl ⟨_,S.row 2 rfl,rfl,?_⟩⟩;(conv=>whnf);intro cg bn;replace S:=S.w2 bn)|(refine⟨_,rfl,rfl,rfl,.inl ⟨_,S.row 3 rfl,rfl,?_⟩⟩;(conv=>whnf);intro cg bn;replace S:=S.w3 bn)|(refine⟨_,rfl,rfl,rfl,.inl ⟨_,S.row 4 rfl,rfl,?_⟩⟩;(conv=>whnf);intro cg bn;replace S:=S.w4 bn)|(refine ae (fun hb=>?_) (fun hb=>?_))|skip)
 iterate 2
  ·refine⟨?_,?_⟩
   ·repeat((try(conv=>whnf));first|trivial|(refine⟨bO rfl (S.row 0 rfl) rfl rfl,?_⟩)|(refine⟨bO rfl (S.row 1 rfl) rfl rfl,?_⟩)|(refine⟨bO rfl (S.row 2 rfl) rfl rfl,?_⟩)|(refine⟨bO rfl (S.row 3 rfl) rfl rfl,?_⟩)|(refine⟨bO rfl (S.row 4 rfl) rfl rfl,?_⟩)|(refine⟨bO rfl (S.row 5 rfl) rfl rfl,?_⟩)|(refine⟨bO rfl (S.row 6 rfl) rfl rfl,?_⟩)|(refine⟨bO rfl (S.row 7 rfl) rfl rfl,?_⟩)|(refine⟨bO rfl (S.row 8 rfl) rfl rfl,?_⟩))
   iterate 3
    all_goals(try(conv=>whnf))
    all_goals(first|(intro ke cg er bn;replace S:=S.alloc er bn)|(refine .inl ⟨_,S.row 0 rfl,rfl,?_⟩)|(refine .inl ⟨_,S.row 1 rfl,rfl,?_⟩)|(refine .inl ⟨_,S.row 2 rfl,rfl,?_⟩)|(refine .inl ⟨_,S.row 3 rfl,rfl,?_⟩)|(refine .inl ⟨_,S.row 4 rfl,rfl,?_⟩)|(refine⟨_,rfl,rfl,rfl,.inl ⟨_,S.row 0 rfl,rfl,?_⟩⟩;(conv=>whnf);intro cg bn;replace S:=S.w0 bn)|(refine⟨_,rfl,rfl,rfl,.inl ⟨_,S.row 1 rfl,rfl,?_⟩⟩;(conv=>whnf);intro cg bn;replace S:=S.w1 bn)|(refine⟨_,rfl,rfl,rfl,.inl ⟨_,S.row 2 rfl,rfl,?_⟩⟩;(conv=>whnf);intro cg bn;replace S:=S.w2 bn)|(refine⟨_,rfl,rfl,rfl,.inl ⟨_,S.row 3 rfl,rfl,?_⟩⟩;(conv=>whnf);intro cg bn;replace S:=S.w3 bn)|(refine⟨_,rfl,rfl,rfl,.inl ⟨_,S.row 4 rfl,rfl,?_⟩⟩;(conv=>whnf);intro cg bn;replace S:=S.w4 bn)|(refine ae (fun hb=>?_) (fun hb=>?_))|skip)
   refine⟨_,aR rfl rfl (S.row 0 rfl) rfl rfl,_,_,rfl,?_⟩;have ZK:(j8 w w2 != 0)=_:=hb;rw[ZK];rfl
def dN:List Item->List Item->List Item
 | [],b=>b
 |a,[]=>a
 |x::xs,y::ys=>
  if gW x.row y.row<0 then x::dN xs (y::ys)
  else if gW x.row y.row>0 then y::dN (x::xs) ys
  else bif j8 x.w y.w != 0 then Pl x y::dN xs ys else dN xs ys
termination_by a b=>a.length+b.length
theorem tH(b:List Item):dN [] b=b:=by simp[dN]
theorem rI(a:List Item):dN a []=a:=by cases a<;>simp[dN]
theorem tI: ∀(n:Nat)(a b:List Item),a.length+b.length<=n->(dN a b).length<=a.length+b.length:=by
 intro n
 induction n with
 |zero=>intro a b h;have ha:a=[]:=bk.1 (by omega);have hb:b=[]:=bk.1 (by omega);subst ha;subst hb;simp[dN]
 |succ n ih=>
  intro a b h
  cases a with
  |nil=>simp[dN]
  |cons x xs=>
   cases b with
   |nil=>simp[dN]
   |cons y ys=>
    simp only[aJ]at h;rw[dN];have h1:=ih xs (y::ys) (by simp;omega);have h2:=ih (x::xs) ys (by simp;omega);have h3:=ih xs ys (by omega);simp only[aJ]at h1 h2⊢;split
    ·simp only[aJ];omega
    ·split
     ·simp only[aJ];omega
     ·cases(j8 x.w y.w != 0)
      ·simp only[cond_false];omega
      ·simp only[cond_true,aJ];omega
theorem zO: ∀(n:Nat)(a b:List Item),a.length+b.length<=n-> ∀z∈dN a b,∃y,(y∈a∨y∈b)/\z.row=y.row:=by
 intro n
 induction n with
 |zero=>intro a b h;have ha:a=[]:=bk.1 (by omega);have hb:b=[]:=bk.1 (by omega);subst ha;subst hb;simp[dN]
 |succ n ih=>
  intro a b h z hz
  cases a with
  |nil=>rw[tH]at hz;exact⟨z,.inr hz,rfl⟩
  |cons x xs=>
   cases b with
   |nil=>rw[rI]at hz;exact⟨z,.inl hz,rfl⟩
   |cons y ys=>
    simp only[aJ]at h;rw[dN]at hz;have h1:=ih xs (y::ys) (by simp;omega) z;have h2:=ih (x::xs) ys (by simp;omega) z;have h3:=ih xs ys (by omega) z;have up: ∀{p q:List Item},(∃w,(w∈p∨w∈q)/\z.row=w.row)->(∀w∈p,w∈x::xs)->(∀w∈q,w∈y::ys)-> ∃w,(w∈x::xs∨w∈y::ys)/\z.row=w.row:=fun⟨w,h,e⟩ hp hq=>⟨w,h.imp (hp w) (hq w),e⟩;split at hz
    ·rcases aW.1 hz with rfl|hz
     ·exact⟨z,.inl (by simp),rfl⟩
     ·exact up (h1 hz) (fun w hw=>by simp[hw]) (fun w hw=>hw)
    ·split at hz
     ·rcases aW.1 hz with rfl|hz
      ·exact⟨z,.inr (by simp),rfl⟩
      ·exact up (h2 hz) (fun w hw=>hw) (fun w hw=>by simp[hw])
     ·cases hc:(j8 x.w y.w != 0)
      ·rw[hc]at hz;exact up (h3 hz) (fun w hw=>by simp[hw]) (fun w hw=>by simp[hw])
      ·rw[hc]at hz;rcases aW.1 hz with rfl|hz
       ·exact⟨x,.inl (by simp),rfl⟩
       ·exact up (h3 hz) (fun w hw=>by simp[hw]) (fun w hw=>by simp[hw])
theorem yy(z:List Item):(z.map Item.enc).all (hU 2)=true:=by
 rw[aG];intro y hy;obtain⟨q,_,rfl⟩:=bj.1 hy;rfl
theorem lO(z:List Item):(z.map Item.enc).all (fun y=>y.cells.length==2)=true:=by
 rw[aG];intro y hy;obtain⟨q,_,rfl⟩:=bj.1 hy;rfl
def ZL:af:=.func (.func 91) [] []
def ZM:af:=.func (.func 92) [] []
theorem B9{h:aC}(x:Item):bS h 4194303 x.enc=some x.enc:=rfl
theorem Vy(x:Item)(xs:List Item):af.sl ((((x::xs).map Item.enc).drop 1).take (((x::xs).map Item.enc).length-1))= .sl (xs.map Item.enc):=by
 simp only[aM,List.drop_succ_cons,List.drop_zero,aJ,aO,Nat.add_sub_cancel];rw[List.take_of_length_le (by simp)]
theorem Pm(hp:bV pr)(a b:List Item)(ha:gi a)(hb:gi b):dm pr 90 [.sl (a.map Item.enc),.sl (b.map Item.enc),ZL,ZM] (.sl ((dN a b).map Item.enc)):=by
 obtain⟨Ls,NM⟩:=ha;obtain⟨El,NN⟩:=hb;refine ea hp rfl rfl ?_;have S:ah [] []:=ah.nil [];conv=>whnf
 refine ga (fun m tm hp=>∃(a' b' z:List Item)(D:af),a'.length+b'.length=m/\tm 0= .sl (a'.map Item.enc)/\tm 1= .sl (b'.map Item.enc)/\tm 9=D/\ah hp [.acc Item.enc 2 z D]/\dN a b=z++dN a' b'/\z.length+a'.length+b'.length<=a.length+b.length/\(∀x∈a',x∈a)/\(∀x∈b',x∈b)) (fun m tm hq bz hI=>?_) (a.length+b.length) ⟨a,b,[],.nil,rfl,rfl,rfl,rfl,S.ma _ _,rfl,by simp,fun _ h=>h,fun _ h=>h⟩;obtain⟨a',b',z,D,hm,e0,e1,e9,S2,aD,hz,WY,WZ⟩:=hI;have k2:=bz 2 (by kernel_rfl);conv at k2=>rhs;whnf
 rw[<-aP k2];have k3:=bz 3 (by kernel_rfl);conv at k3=>rhs;whnf
 rw[<-aP k3,<-aP e0,<-aP e1,<-aP e9];clear bz k2 k3 e0 e1 e9 S;have S:=S2;clear S2;have Bd:z.length+1<=br:=by simp[br,cM]at Ls El⊢;omega
 cases a' with
 |nil=>
  conv=>whnf
  refine⟨trivial,?_⟩;conv=>whnf
  refine⟨_,rfl,yy [],?_⟩;refine jA (ys:=[]) S (by simp only[br,cM]at*;simp only[List.length_append,aJ,List.length_nil]at*;omega) fun D1 w1 Ec S1=>?_;conv=>whnf
  refine⟨trivial,?_⟩;conv=>whnf
  refine⟨_,rfl,yy b',?_⟩;refine jA (ys:=b') S1 (by simp only[br,cM]at*;simp only[List.length_append,aJ,List.length_nil]at*;omega) fun D2 w2 X9 S2=>?_;conv=>whnf
  refine⟨_,rfl,_,_,rfl,?_⟩;have ZN:=(show m8 Item.enc 2 w2 _ D2 from S2.get 0 rfl).frozen fun x _=>B9 x;refine Eq.trans ZN ?_;rw[aD]
  rw[tH,aU]
 |cons x xs=>
  cases b' with
  |nil=>
   conv=>whnf
   refine eZ (by simp;try omega) ?_;conv=>whnf
   refine⟨trivial,?_⟩;conv=>whnf
   refine⟨_,rfl,yy (x::xs),?_⟩;refine jA (ys:=(x::xs)) S (by simp only[br,cM]at*;simp only[List.length_append,aJ,List.length_nil]at*;omega) fun D1 w1 Ec S1=>?_;conv=>whnf
   refine⟨trivial,?_⟩;conv=>whnf
   refine⟨_,rfl,yy [],?_⟩;refine jA (ys:=[]) S1 (by simp only[br,cM]at*;simp only[List.length_append,aJ,List.length_nil]at*;omega) fun D2 w2 X9 S2=>?_;conv=>whnf
   refine⟨_,rfl,_,_,rfl,?_⟩;have ZN:=(show m8 Item.enc 2 w2 _ D2 from S2.get 0 rfl).frozen fun x _=>B9 x;refine Eq.trans ZN ?_;rw[aD]
   rw[rI,aU]
  |cons y ys=>
   have hxr:=NM x (WY x (by simp));have hyr:=NN y (WZ y (by simp));have h1:=Mh hp x y hxr hyr;have h2:=WX hp x y;rw[dN]at aD;have hm1:Pl x y=⟨x.row,j8 x.w y.w⟩:=rfl;generalize Pl x y=mx at h2 aD hm1;obtain⟨r,w⟩:=x;obtain⟨r2,w2⟩:=y;obtain⟨r3,w3⟩:=mx;simp only at h1 h2 aD;generalize gW r r2=c at h1 aD;generalize hb3:(j8 w w2 != 0)=b3 at h2 aD;conv=>whnf
   refine eZ (by simp;try omega) ?_;conv=>whnf
   refine eZ (by simp;try omega) ?_;conv=>whnf
   refine⟨_,rfl,by decide,rfl,?_⟩;conv=>whnf
   refine⟨_,rfl,by decide,rfl,?_⟩;conv=>whnf
   refine⟨_,h1 _,?_⟩;conv=>whnf
   refine ae (fun g1=>?_) (fun g1=>?_)
   ·rw[if_pos (by simpa using g1)]at aD;conv=>whnf
    refine⟨_,rfl,by decide,rfl,?_⟩;conv=>whnf
    intro k1 q1 dw zn;replace S:=S.alloc dw zn;conv=>whnf
    refine⟨⟨by decide,by simp<;>omega,by simp<;>omega,lO _⟩,?_⟩;conv=>whnf
    refine⟨trivial,?_⟩;conv=>whnf
    refine⟨[(Item.mk r w).enc],bG (S.row 0 rfl),rfl,?_⟩;replace S:=S.drop 0;dsimp only[List.eraseIdx]at S;refine oQ (sz:=2) S Bd fun k2 q2 S3 _=>?_;conv=>whnf
    refine⟨?_,?_⟩
    ·conv=>whnf
     refine⟨B1 rfl rfl rfl rfl ⟨by decide,by simp<;>omega,by simp<;>omega,lO _⟩ rfl,?_⟩;conv=>whnf
     trivial
    conv=>whnf
    exact⟨m-1,by simp at hm;omega,xs,⟨r2,w2⟩::ys,z++[⟨r,w⟩],_,by simp at hm⊢;omega,Vy _ _,rfl,rfl,S3,by rw[aD,List.append_assoc];rfl,by simp at hz⊢;omega,fun x hx=>WY x (List.mem_cons_of_mem _ hx),WZ⟩
   ·rw[if_neg (by simpa using g1)]at aD;conv=>whnf
    refine ae (fun g2=>?_) (fun g2=>?_)
    ·rw[if_pos (by simpa using g2)]at aD;conv=>whnf
     refine⟨_,rfl,by decide,rfl,?_⟩;conv=>whnf
     intro k1 q1 dw zn;replace S:=S.alloc dw zn;conv=>whnf
     refine⟨⟨by decide,by simp<;>omega,by simp<;>omega,lO _⟩,?_⟩;conv=>whnf
     refine⟨trivial,?_⟩;conv=>whnf
     refine⟨[(Item.mk r2 w2).enc],bG (S.row 0 rfl),rfl,?_⟩;replace S:=S.drop 0;dsimp only[List.eraseIdx]at S;refine oQ (sz:=2) S Bd fun k2 q2 S3 _=>?_;conv=>whnf
     refine⟨?_,?_⟩
     ·conv=>whnf
      refine⟨B1 rfl rfl rfl rfl ⟨by decide,by simp<;>omega,by simp<;>omega,lO _⟩ rfl,?_⟩;conv=>whnf
      trivial
     conv=>whnf
     exact⟨m-1,by simp at hm;omega,⟨r,w⟩::xs,ys,z++[⟨r2,w2⟩],_,by simp at hm⊢;omega,rfl,Vy _ _,rfl,S3,by rw[aD,List.append_assoc];rfl,by simp at hz⊢;omega,WY,fun x hx=>WZ x (List.mem_cons_of_mem _ hx)⟩
    ·rw[if_neg (by simpa using g2)]at aD
     cases b3 with
     |false=>
      rw[cond_false]at aD;conv=>whnf
      refine⟨_,rfl,by decide,rfl,?_⟩;conv=>whnf
      refine⟨_,rfl,by decide,rfl,?_⟩;conv=>whnf
      refine⟨_,h2 _,?_⟩;conv=>whnf
      intro k1 q1 dw zn;replace S:=S.alloc dw zn;conv=>whnf
      refine⟨_,rfl,rfl,rfl,.inl ⟨_,S.row 0 rfl,rfl,?_⟩⟩;conv=>whnf
      intro q2 iB;replace S:=S.w0 iB;conv=>whnf
      refine⟨⟨by decide,by simp<;>omega,by simp<;>omega,lO _⟩,?_⟩;conv=>whnf
      refine⟨⟨by decide,by simp<;>omega,by simp<;>omega,lO _⟩,?_⟩;conv=>whnf
      replace S:=S.drop 0;dsimp only[List.eraseIdx]at S
      exact⟨m-2,by simp at hm;omega,xs,ys,z,_,by simp at hm⊢;omega,Vy _ _,Vy _ _,rfl,S,aD,by simp at hz⊢;omega,fun x hx=>WY x (List.mem_cons_of_mem _ hx),fun x hx=>WZ x (List.mem_cons_of_mem _ hx)⟩
     |true=>
      rw[cond_true]at aD;conv=>whnf
      refine⟨_,rfl,by decide,rfl,?_⟩;conv=>whnf
      refine⟨_,rfl,by decide,rfl,?_⟩;conv=>whnf
      refine⟨_,h2 _,?_⟩;conv=>whnf
      intro k1 q1 dw zn;replace S:=S.alloc dw zn;conv=>whnf
      refine⟨_,rfl,rfl,rfl,.inl ⟨_,S.row 0 rfl,rfl,?_⟩⟩;conv=>whnf
      intro q2 iB;replace S:=S.w0 iB;conv=>whnf
      refine aI (S.row 0 rfl) ?_;conv=>whnf
      intro k3 q3 kS A2;replace S:=S.alloc kS A2;conv=>whnf
      refine⟨trivial,?_⟩;conv=>whnf
      refine⟨[(Item.mk r3 w3).enc],bG (S.row 0 rfl),rfl,?_⟩;replace S:=S.pick [2] (by decide);simp only[kB,List.getElem?_cons_zero,List.getElem?_cons_succ]at S;refine oQ (sz:=2) S Bd fun k4 q4 S3 _=>?_;conv=>whnf
      refine⟨⟨by decide,by simp<;>omega,by simp<;>omega,lO _⟩,?_⟩;conv=>whnf
      refine⟨⟨by decide,by simp<;>omega,by simp<;>omega,lO _⟩,?_⟩;conv=>whnf
      exact⟨m-2,by simp at hm;omega,xs,ys,z++[⟨r3,w3⟩],_,by simp at hm⊢;omega,Vy _ _,Vy _ _,rfl,S3,by rw[aD,List.append_assoc];rfl,by simp at hz⊢;omega,fun x hx=>WY x (List.mem_cons_of_mem _ hx),fun x hx=>WZ x (List.mem_cons_of_mem _ hx)⟩
end Go.Proofs.YtfepbikckfehlaaGreat

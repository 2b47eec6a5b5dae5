/- What a view is till a time: the reference's. -/
import Derived.Test.YtfepbikckfehlaaGreatGH34
import Derived.Test.YtfepbikckfehlaaGreatGH33
import Derived.Test.YtfepbikckfehlaaGreatGH32
import Derived.Test.YtfepbikckfehlaaGreatGH23
import Derived.Test.YtfepbikckfehlaaGreatGH16
set_option linter.unusedVariables false
set_option linter.unusedSimpArgs false
set_option maxHeartbeats 4000000
namespace Go.Proofs.YtfepbikckfehlaaGreat
open Go Go.Am
theorem j5.aad{z:List Item}(P:Item->Bool)(h:j5 z):j5 (z.filter P):=by
 induction z with
 |nil=>exact h
 |cons x xs ih=>
  rw[List.filter_cons];split
  ·exact⟨fun y hy=>h.1 y (List.mem_filter.1 hy).1,ih h.2⟩
  ·exact ih h.2
theorem Lb: ∀{z:List Item}{q:Option (List Int)},j5 z->(∀x∈z,nh x.row=true/\Nu x.w=true)->(∀r,q=some r-> ∀y∈z,eg r y.row=true)->B5 q z=true
 | [],_,_,_,_=>rfl
 |x::xs,q,h1,h2,h3=>by
  simp only[B5,aj];refine⟨⟨(h2 x (by simp)).1,(h2 x (by simp)).2,?_⟩,Lb h1.2 (fun y hy=>h2 y (by simp[hy])) fun r hr y hy=>?_⟩
  ·cases q with
   |none=>rfl
   |some r=>exact h3 r rfl x (by simp)
  ·cases hr;exact h1.1 y hy
theorem Ha{z:List Item}(h:c7 z=true): ∀x∈z,nh x.row=true/\Nu x.w=true:=by
 simp only[c7,aj]at h
 have key: ∀(z:List Item)(q:Option (List Int)),B5 q z=true-> ∀x∈z,nh x.row=true/\Nu x.w=true:=by
  intro z
  induction z with
  |nil=>intro q _ x hx;simp at hx
  |cons y ys ih=>
   intro q hq x hx;simp only[B5,aj]at hq;rcases aW.1 hx with rfl|hx
   ·exact⟨hq.1.1,hq.1.2.1⟩
   ·exact ih _ hq.2 x hx
 exact key z none h.2
theorem P6{z:List Item}(P:Item->Bool)(h:c7 z=true):c7 (z.filter P)=true:=by
 unfold c7;rw[decide_eq_true (bw (List.length_filter_le _ _) (cE h).1),aX];exact Lb ((pG h).aad P) (fun x hx=>Ha h x (List.mem_filter.1 hx).1) fun r hr=>by cases hr
theorem MW{z w:List Item}{t:Test}(h:qo z t=some w):c7 w=true/\ ∀x∈w,x∈z:=by
 unfold qo at h;split at h
 ·rename_i g;simp only[aj]at g;have h1:=P6 (fun x=>(iX t x.row).1) g.1;rw[kN (pG h1) (K4 h1)]at h;cases h
  exact⟨h1,fun x hx=>(List.mem_filter.1 hx).1⟩
 ·cases h
def dH(w:Int)(z:List Item):Prop:=∀x∈z,(x.row.length:Int)=w
theorem pI(w:Int):dH w []:=fun x hx=>by simp at hx
theorem Hb{w:Int}{z:List Item}{r:List Int}{k:Int}(hz:dH w z)(hr:(r.length:Int)=w):dH w (fT z r k):=fun x hx=>by
 rcases pz x hx with h|⟨y,hy,h⟩
 ·rw[h];exact hr
 ·rw[h];exact hz y hy
theorem iI{w:Int}{a b:List Item}(ha:dH w a)(hb:dH w b):dH w (ct a b):=by
 induction b generalizing a with
 |nil=>exact ha
 |cons y ys ih=>exact ih (Hb ha (hb y (by simp))) fun x hx=>hb x (by simp[hx])
theorem mN{w:Int}{z v:List Item}(h:ot z=some v)(hz:dH w z):c7 v=true/\dH w v:=by
 unfold ot at h;split at h
 ·cases h;exact⟨by assumption,hz⟩
 ·cases h
theorem Hc{w:Int}{z:List Item}(hz:dH w z):dH w (rL z):=fun x hx=>by
 obtain⟨y,hy,rfl⟩:=bj.1 hx;exact hz y hy
theorem Hd{w:Int}{z:List Item}(hz:dH w z):dH w (qp z):=fun x hx=>by
 obtain⟨y,hy,rfl⟩:=bj.1 hx;exact hz y (List.mem_filter.1 hy).1
theorem Co{w:Int}{a b v:List Item}(h:lR a b=some v)(ha:dH w a)(hb:dH w b):c7 v=true/\dH w v:=by
 unfold lR at h;split at h
 ·exact mN h (iI ha hb)
 ·cases h
theorem Ao{w:Int}{a b v:List Item}(h:il a b=some v)(ha:dH w a)(hb:dH w b):c7 v=true/\dH w v:=by
 unfold il at h;split at h
 ·rename_i now hn;exact mN h (iI (Hd (Co hn ha hb).2) (Hc (Hd ha)))
 ·cases h
theorem P7{z v:List Item}{cells:List Cell}(h:Dy z cells=some v):c7 v=true/\dH (cells.length:Int) v:=by
 unfold Dy at h;split at h
 ·rename_i g;simp only[aj]at g;refine mN h (iI (pI _) fun y hy=>?_);obtain⟨x,hx,rfl⟩:=bj.1 hy;have:=aG.1 g.2 x hx;simp only;unfold cellsOf at this⊢;split
  ·simp
  ·rename_i hn;rw[if_neg hn]at this;simp at this
 ·cases h
theorem wO{a b:List Item}{x y wa wb:Int}(ha:dH wa a)(hb:dH wb b):dH (wa+wb) (ct [] (iG a b x y)):=by
 refine iI (pI _) fun u hu=>?_;obtain⟨p,hp,hu⟩:=List.mem_flatMap.1 hu;obtain⟨q,hq,rfl⟩:=bj.1 hu;have h1:=ha p hp;have h2:=hb q (List.mem_filter.1 hq).1;simp only[yz,List.length_append];omega
theorem Ap{a da b db v:List Item}{x y wa wb:Int}(h:ir a da b db x y=some v)(ha:dH wa a)(Yc:dH wa da)(hb:dH wb b)(Yd:dH wb db):c7 v=true/\dH (wa+wb) v:=by
 unfold ir at h;split at h
 ·exact mN h (iI (iI (wO Yc hb) (wO ha Yd)) (wO Yc Yd))
 ·cases h
theorem Aq{z v:List Item}{ao:List Int}{agg c:Int}(h:kJ z ao agg c=some v):c7 v=true/\dH ((ao.length:Int)+1) v:=by
 have key: ∀(l acc:List Item),dH ((ao.length:Int)+1) acc->dH ((ao.length:Int)+1) (l.foldl (dV z ao agg c) acc):=by
  intro l
  induction l with
  |nil=>intro acc h;exact h
  |cons y ys ih=>
   intro acc h;refine ih _ ?_;unfold dV
   repeat' split
   ·exact h
   ·exact Hb h (by simp[keyOf])
   ·exact h
 unfold kJ at h;split at h
 ·exact mN h (key z [] (pI _))
 ·cases h
theorem yi{z d v:List Item}{ao:List Int}{agg c:Int}(h:gd z d ao agg c=some v):c7 v=true/\dH ((ao.length:Int)+1) v:=by
 unfold gd at h;split at h
 ·cases h
 ·split at h
  ·split at h
   ·rename_i a b ha hb;exact mN h (iI (Aq hb).2 (Hc (Aq ha).2))
   ·cases h
  ·cases h
theorem Ar{w:Int}{l:List (List Item)}(h: ∀z∈l,dH w z):dH w (gX l):=by
 have key: ∀(rs:List (List Item))(a:List Item),(∀z∈rs,dH w z)->dH w a->dH w (rs.foldl ct a):=by
  intro rs
  induction rs with
  |nil=>intro a _ ha;exact ha
  |cons z zs ih=>intro a hz ha;exact ih _ (fun y hy=>hz y (by simp[hy])) (iI ha (hz z (by simp)))
 exact key l [] h (pI w)
theorem Cp{P:List Item->Prop}{xs:List (List Item)}(h2:2<=xs.length)(h: ∀z∈xs,P z)(ha: ∀y z,P y->P z->ct y z≠[]->P (ct y z)): ∀z∈fP xs,P z:=by
 obtain⟨A,y,z,rfl⟩:=qx h2;rw[u0];intro u hu;split at hu
 ·exact h u (by rw[aU]at hu;simp[hu])
 ·rename_i kY;rcases bu.1 hu with hu|hu
  ·exact h u (by simp[hu])
  ·simp at hu;subst hu;exact ha y z (h y (by simp)) (h z (by simp)) kY
theorem As{P:List Item->Prop}(ha: ∀y z,P y->P z->ct y z≠[]->P (ct y z)): ∀(n:Nat)(xs:List (List Item)),(∀z∈xs,P z)-> ∀z∈iY n xs,P z
 |0,xs,h=>h
 |n+1,xs,h=>by
  unfold iY;split
  ·rename_i hc;exact As ha n _ (Cp (by omega) h ha)
  ·exact h
theorem At: ∀(n:Nat)(xs:List (List Item)),xs.length<=n-> ¬(5<(iY n xs).length∨(1<(iY n xs).length/\en (iY n xs)=false))
 |0,xs,h=>by
  have:xs=[]:=bk.1 (by omega);subst this
  simp[iY]
 |n+1,xs,h=>by
  by_cases hc:5<xs.length∨(1<xs.length/\en xs=false)
  ·unfold iY;rw[if_pos hc];have:=nu (xs:=xs) (by omega);exact At n _ (by omega)
  ·unfold iY;rw[if_neg hc];exact hc
theorem yB{w:Int}{l:List (List Item)}{z:List Item}(hl:en l=true)(hw: ∀y∈l,dH w y)(hz:dH w z)(h:(nX l z).2=true):en (nX l z).1=true/\ ∀y∈(nX l z).1,dH w y:=by
 unfold nX at h⊢;split at h
 ·rw[if_pos (by assumption)];exact⟨hl,hw⟩
 ·rename_i kY;rw[if_neg kY];split at h
  ·rename_i h1;rw[if_pos h1];split at h
   ·rename_i h2;rw[if_pos h2];have hn:=Gy hl
    have hA:=As (P:=fun y=>dH w y/\y≠[]) (fun y z hy hz kY=>⟨iI hy.1 hz.1,kY⟩) (l.length+1) (l++[z]) (fun y hy=>by
     rcases bu.1 hy with hy|hy
     ·exact⟨hw y hy,hn y hy⟩
     ·simp at hy;subst hy;exact⟨hz,kY⟩)
    have hE:=At (l.length+1) (l++[z]) (by simp);generalize iY (l.length+1) (l++[z])=T at h2 hA hE⊢;refine⟨?_,fun y hy=>(hA y hy).1⟩
    by_cases h3:1<T.length
    ·cases hT:en T with
     |true=>rfl
     |false=>exact absurd (.inr ⟨h3,hT⟩) hE
    ·match T,h3 with
     | [],_=>rfl
     | [y],_=>
      have hy:c7 y=true:=by simpa[xG]using h2
      have Ww:=(hA y (by simp)).2
      simp[en,oo,hy,Ww]
     |_::_::_,h3=>simp at h3
   ·cases h
  ·cases h
theorem mO{o:Option (List Item)}(h:(nV o).2=true):o=some (nV o).1:=by
 cases o with
 |none=>cases h
 |some z=>rfl
def wP(ws:List Int)(aw n:Int)(cells:List Cell)(ao:List Int)(l r:List (List Item))(wk:List Int)(w:Int):Prop:=
 (aw=1/\0<=n/\wk=[]/\ws[n.toNat]?=some w)∨(aw=2/\wk=[w])∨(aw=3/\wk.length=1/\w=cells.length)∨
 (aw=4/\ ∃a b,wk=[a,b]/\w=a+b/\(∀z∈l,dH a z)/\ ∀z∈r,dH b z)∨(aw=5/\wk=[w,w])∨(aw=6/\wk=[w]/\ ∀z∈l,dH w z)∨
 (aw=7/\w=(ao.length:Int)+1/\ ∃a,wk=[a]/\ ∀z∈l,dH a z)
theorem Sc{ws:List Int}{aw n:Int}{aA:Test}{cells:List Cell}{a b:Int}{ao:List Int}{agg col:Int}{l r aH outs:List (List Item)}{wk:List Int}{w:Int}(hn:wP ws aw n cells ao l r wk w)
  (ht: ∀(i:Nat) z v,aH[i]?=some z->ws[i]?=some v->c7 z=true/\dH v z) (ho:outs.length=wk.length) (hk: ∀(i:Nat) z v,outs[i]?=some z->wk[i]?=some v->c7 z=true/\dH v z)
  (h:(jw aw n aA cells a b ao agg col l r aH outs).2=true):c7 (jw aw n aA cells a b ao agg col l r aH outs).1=true/\dH w (jw aw n aA cells a b ao agg col l r aH outs).1:=by
   have h0: ∀(i:Nat) v,wk[i]?=some v->c7 (gD outs i)=true/\dH v (gD outs i):=fun i v hv=>by
    have hi:i<outs.length:=by rw[ho];exact(az.1 hv).1
    exact hk i _ v (DR hi) hv
   unfold jw at h⊢;rcases hn with⟨rfl,Jq,rfl,hw⟩|⟨rfl,rfl⟩|⟨rfl,_,rfl⟩|⟨rfl,a',b',rfl,rfl,hl,hr⟩|⟨rfl,rfl⟩|⟨rfl,rfl,hl⟩|⟨rfl,rfl,a',rfl,hl⟩
   ·rw[if_pos rfl];split
    ·exact⟨rfl,pI _⟩
    ·rename_i eH;have hi:n.toNat<aH.length:=by omega
     exact ht n.toNat _ w (DR hi) hw
   ·rw[if_neg (by decide),if_pos rfl]at h⊢;obtain⟨h1,h2⟩:=MW (mO h);exact⟨h1,fun x hx=>(h0 0 w rfl).2 x (h2 x hx)⟩
   ·rw[if_neg (by decide),if_neg (by decide),if_pos rfl]at h⊢;exact P7 (mO h)
   ·rw[if_neg (by decide),if_neg (by decide),if_neg (by decide),if_pos rfl]at h⊢;exact Ap (mO h) (Ar hl) (h0 0 a' rfl).2 (Ar hr) (h0 1 b' rfl).2
   ·rw[if_neg (by decide),if_neg (by decide),if_neg (by decide),if_neg (by decide),if_pos rfl]at h⊢;exact Co (mO h) (h0 0 w rfl).2 (h0 1 w rfl).2
   ·rw[if_neg (by decide),if_neg (by decide),if_neg (by decide),if_neg (by decide),if_neg (by decide),if_pos rfl]at h⊢;exact Ao (mO h) (Ar hl) (h0 0 w rfl).2
   ·rw[if_neg (by decide),if_neg (by decide),if_neg (by decide),if_neg (by decide),if_neg (by decide),if_neg (by decide)]at h⊢;exact yi (mO h)
theorem Sd{ws:List Int}{aw n:Int}{cells:List Cell}{ao:List Int}{l r outs:List (List Item)}{wk:List Int}{w:Int}(hn:wP ws aw n cells ao l r wk w)(hl:en l=true)(hr:en r=true)
  (ho:outs.length=wk.length) (hk: ∀(i:Nat) z v,outs[i]?=some z->wk[i]?=some v->c7 z=true/\dH v z) (h:(fV aw l r outs).2.2=true):
  wP ws aw n cells ao (fV aw l r outs).1 (fV aw l r outs).2.1 wk w/\en (fV aw l r outs).1=true/\en (fV aw l r outs).2.1=true/\(aw≠4->(fV aw l r outs).2.1=r)/\(aw≠4->aw≠6->aw≠7->(fV aw l r outs).1=l):=by
   have h0: ∀(i:Nat) v,wk[i]?=some v->c7 (gD outs i)=true/\dH v (gD outs i):=fun i v hv=>by
    have hi:i<outs.length:=by rw[ho];exact(az.1 hv).1
    exact hk i _ v (DR hi) hv
   unfold fV at h⊢;rcases hn with⟨rfl,Jq,rfl,hw⟩|⟨rfl,rfl⟩|⟨rfl,h3,rfl⟩|⟨rfl,a',b',rfl,rfl,gl,gr⟩|⟨rfl,rfl⟩|⟨rfl,rfl,gl⟩|⟨rfl,rfl,a',rfl,gl⟩
   ·rw[if_neg (by decide),if_neg (by decide)];exact⟨.inl ⟨rfl,Jq,rfl,hw⟩,hl,hr,fun _=>rfl,fun _ _ _=>rfl⟩
   ·rw[if_neg (by decide),if_neg (by decide)];exact⟨.inr (.inl ⟨rfl,rfl⟩),hl,hr,fun _=>rfl,fun _ _ _=>rfl⟩
   ·rw[if_neg (by decide),if_neg (by decide)];exact⟨.inr (.inr (.inl ⟨rfl,h3,rfl⟩)),hl,hr,fun _=>rfl,fun _ _ _=>rfl⟩
   ·rw[if_pos rfl]at h⊢;simp only[aj]at h;obtain⟨p1,p2⟩:=yB hl gl (h0 0 a' rfl).2 h.1;obtain⟨p3,p4⟩:=yB hr gr (h0 1 b' rfl).2 h.2;exact⟨.inr (.inr (.inr (.inl ⟨rfl,a',b',rfl,rfl,p2,p4⟩))),p1,p3,fun h=>absurd rfl h,fun h=>absurd rfl h⟩
   ·rw[if_neg (by decide),if_neg (by decide)];exact⟨.inr (.inr (.inr (.inr (.inl ⟨rfl,rfl⟩)))),hl,hr,fun _=>rfl,fun _ _ _=>rfl⟩
   ·rw[if_neg (by decide),if_pos (by decide)]at h⊢;obtain⟨p1,p2⟩:=yB hl gl (h0 0 w rfl).2 h;exact⟨.inr (.inr (.inr (.inr (.inr (.inl ⟨rfl,rfl,p2⟩))))),p1,hr,fun _=>rfl,fun _ h=>absurd rfl h⟩
   ·rw[if_neg (by decide),if_pos (by decide)]at h⊢;obtain⟨p1,p2⟩:=yB hl gl (h0 0 a' rfl).2 h;exact⟨.inr (.inr (.inr (.inr (.inr (.inr ⟨rfl,rfl,a',rfl,p2⟩))))),p1,hr,fun _=>rfl,fun _ _ h=>absurd rfl h⟩
def lA(ws:List Int):Nat->bA->Int->Prop
 |0,_,_=>False
 |d+1,.mk (.mk aw n aA cells a b ao agg col qs) l r ks,w=>(ax.mk aw n aA cells a b ao agg col qs).sz<=300/\en l=true/\en r=true/\(aw≠4->r=[])/\(aw≠4->aw≠6->aw≠7->l=[])/\ks.map bA.dx=qs/\
  ∃wk:List Int,wk.length=ks.length/\wP ws aw n cells ao l r wk w/\ ∀(i:Nat) k v,ks[i]?=some k->wk[i]?=some v->lA ws d k v
mutual
def hH:bA->List (List Item)->Option (bA×List Item)
 | .mk (.mk aw n aA cells a b ao agg col qs) l r ks,aH=>match ix ks aH with
  |none=>none
  |some (pc,outs)=>if(jw aw n aA cells a b ao agg col l r aH outs).2=false then none else
   if(fV aw l r outs).2.2=false then none else some (.mk (.mk aw n aA cells a b ao agg col qs) (fV aw l r outs).1 (fV aw l r outs).2.1 pc,(jw aw n aA cells a b ao agg col l r aH outs).1)
def ix:List bA->List (List Item)->Option (List bA×List (List Item))
 | [],_=>some ([],[])
 |k::ks,aH=>match hH k aH with
  |none=>none
  |some (k',o)=>match ix ks aH with
   |none=>none
   |some (pc,outs)=>some (k'::pc,o::outs)
end
theorem nF{aH:List (List Item)}: ∀{ks pc:List bA}{outs:List (List Item)},ix ks aH=some (pc,outs)->pc.length=ks.length/\outs.length=ks.length/\ ∀(i:Nat) k,ks[i]?=some k-> ∃k' o,hH k aH=some (k',o)/\pc[i]?=some k'/\outs[i]?=some o
 | [],pc,outs,h=>by simp only[ix,Option.some.injEq,Prod.mk.injEq]at h;obtain⟨rfl,rfl⟩:=h;exact⟨rfl,rfl,fun i k h=>by simp at h⟩
 |k::ks,pc,outs,h=>by
  simp only[ix]at h;split at h
  ·cases h
  ·rename_i k1 o1 h1;split at h
   ·cases h
   ·rename_i ks1 abV h2;simp only[Option.some.injEq,Prod.mk.injEq]at h;obtain⟨rfl,rfl⟩:=h;obtain⟨g1,g2,g3⟩:=nF h2;refine⟨by simp[g1],by simp[g2],fun i k2 hi=>?_⟩
    cases i with
    |zero=>simp at hi;subst hi;exact⟨_,_,h1,rfl,rfl⟩
    |succ i=>exact g3 i k2 (by simpa using hi)
theorem sB{ws:List Int}{aH:List (List Item)}(ht: ∀(i:Nat) z v,aH[i]?=some z->ws[i]?=some v->c7 z=true/\dH v z): ∀(d:Nat)(f f':bA)(w:Int)(out:List Item),lA ws d f w->hH f aH=some (f',out)->lA ws d f' w/\c7 out=true/\dH w out/\f'.dx=f.dx:=by
 intro d
 induction d with
 |zero=>intro f f' w out h;exact h.elim
 |succ d ih=>
  intro f f' w out hf hs;obtain⟨⟨aw,n,aA,cells,a,b,ao,agg,col,qs⟩,l,r,ks⟩:=f;obtain⟨h1,h2,h3,h4,h5,h6,wk,h7,h8,h9⟩:=hf;simp only[hH]at hs;split at hs
  ·cases hs
  ·rename_i pc outs yd;split at hs
   ·cases hs
   ·rename_i hm;split at hs
    ·cases hs
    ·rename_i Vo;simp only[Option.some.injEq,Prod.mk.injEq]at hs;obtain⟨rfl,rfl⟩:=hs;simp only[Bool.not_eq_false]at hm Vo;obtain⟨g1,g2,g3⟩:=nF yd
     have JF: ∀(i:Nat) v,wk[i]?=some v-> ∃k k' o,ks[i]?=some k/\pc[i]?=some k'/\outs[i]?=some o/\lA ws d k' v/\c7 o=true/\dH v o/\k'.dx=k.dx:=fun i v hv=>by
      have hi:i<ks.length:=by rw[<-h7];exact(az.1 hv).1
      obtain⟨k',o,e1,e2,e3⟩:=g3 i ks[i] (au hi);obtain⟨q1,q2,q3,q4⟩:=ih _ _ v _ (h9 i _ v (au hi) hv) e1;exact⟨_,_,_,au hi,e2,e3,q1,q2,q3,q4⟩
     have ho: ∀(i:Nat) z v,outs[i]?=some z->wk[i]?=some v->c7 z=true/\dH v z:=fun i z v hz hv=>by
      obtain⟨k,k',o,_,_,e3,_,q2,q3,_⟩:=JF i v hv;rw[hz]at e3;cases e3;exact⟨q2,q3⟩
     have MX:outs.length=wk.length:=by rw[g2,h7]
     obtain⟨m1,m2⟩:=Sc (aA:=aA) (a:=a) (b:=b) (agg:=agg) (col:=col) h8 ht MX ho hm;obtain⟨p1,p2,p3,p4,p5⟩:=Sd h8 h2 h3 MX ho Vo;refine⟨⟨h1,p2,p3,fun h=>by rw[p4 h,h4 h],fun ha hb hc=>by rw[p5 ha hb hc,h5 ha hb hc],?_,wk,by rw[g1,h7],p1,fun i k v hk hv=>?_⟩,m1,m2,rfl⟩
     ·rw[<-h6];apply List.ext_getElem?;intro i;rw[List.getElem?_map,List.getElem?_map]
      by_cases hi:i<ks.length
      ·obtain⟨k,k',o,e1,e2,_,_,_,_,q4⟩:=JF i wk[i] (au (by omega));rw[e1,e2];simp[q4]
      ·rw[List.getElem?_eq_none (by omega),List.getElem?_eq_none (by omega)]
     ·obtain⟨k2,k',o,_,e2,_,q1,_⟩:=JF i v hv;rw[hk]at e2;cases e2;exact q1
end Go.Proofs.YtfepbikckfehlaaGreat
set_option maxHeartbeats 4000000
namespace Go.Proofs.YtfepbikckfehlaaGreat
open Go Go.Am
variable{pr:bL}(hp:bV pr)
set_option maxRecDepth 100000
theorem _root_.Go.Am.ah.my{h:aC}{L:List Chunk}(n:Nat)(S:ah h L):ah h (L.drop n):=by
 induction n generalizing L with
 |zero=>rw[List.drop_zero];exact S
 |succ n ih=>
  cases L with
  |nil=>rw[List.drop_nil];exact S
  |cons c L=>rw[List.drop_succ_cons];exact ih (S.drop 0)
theorem bZ.Lc{h:aC}: ∀{ds:List ba}{vs:List af}{F:List Nat},bZ h ds vs F-> ∀(i:Nat) d,ds[i]?=some d-> ∃v G,vs[i]?=some v/\bP h d v G
 | [],vs,F,hp,i,d,hd=>by simp at hd
 |p::ps,vs,F,hp,i,d,hd=>by
  simp only[bZ]at hp;obtain⟨v,eo,F1,F2,rfl,rfl,h1,h2⟩:=hp
  cases i with
  |zero=>simp at hd;subst hd;exact⟨v,F1,rfl,h1⟩
  |succ i=>simp at hd;exact bZ.Lc h2 i d hd
def atD(dp:ba)(aZ:List cC):Prop:=dp= .v (.sl (aZ.map cC.enc))∨dp= .s 2 (aZ.map cC.d)
theorem ah.fzP{h:aC}{L:List Chunk}(aZ:List cC)(S:ah h L):ah h (.cU (.v (.sl (aZ.map cC.enc))) (.sl (aZ.map cC.enc)) []::L):=
 S.more (List.prefix_refl _) (by show bP _ _ _ _;unfold bP;exact⟨rfl,rfl,rfl⟩) (by simp[Chunk.cU]) (by simp[Chunk.cU])
theorem MY{h:aC}{dp:ba}{aZ:List cC}{P:af}{F:List Nat}(hd:atD dp aZ)(ho:bP h dp P F):(P= .nil/\aZ.length=0)∨P= .sl (aZ.map cC.enc)∨ ∃id vs,P= .own id 0 aZ.length/\h[id]?=some (.arr 2 vs)/\ ∀(i:Nat) p,aZ[i]?=some p-> ∃O G,vs[i]?=some (.agg [i64 p.cA,O])/\bP h (aE.d p.out) O G:=by
 rcases hd with rfl|rfl
 ·simp only[bP]at ho;exact .inr (.inl ho.1)
 ·simp only[bP]at ho;rcases ho with⟨h1,_,rfl|rfl⟩|⟨id,vs,Fs,rfl,h5,h6,_⟩
  ·exact .inl ⟨rfl,by simpa using h1⟩
  ·have:aZ=[]:=by simpa using h1
   subst this;exact .inr (.inl rfl)
  ·refine .inr (.inr ⟨id,vs,by simp,h5,fun i p hi=>?_⟩);obtain⟨v,G,g1,g2⟩:=bZ.Lc h6 i p.d (by simp[hi]);obtain⟨vv,rfl,hu⟩:=gx.1 g2;obtain⟨w1,rfl,UK⟩:=ni.1 hu;obtain⟨O,w2,G1,G2,rfl,rfl,gO,BZ⟩:=kD.1 UK;obtain⟨rfl,rfl⟩:=eL.1 BZ;exact⟨O,G1,g1,gO⟩
theorem JG(hp:bV pr){aw n:Int}{aA:Test}{a b:Int}{agg col:Int}{C K0 D0 L R KS B P mo:af}{bF cA:Int}{base more:List Item}{aZ:List cC}{dp:ba}{FP:List Nat}{h:aC}{Q:List Chunk}(hd:atD dp aZ)
  (hb:c7 base=true) (ho: ∀p∈aZ,c7 p.out=true) (hl:aZ.length<=1000000) (hm:c7 more=true) (S:ah h (.cU dp P FP::Q)) (hB: ∀h',ah h' (.cU dp P FP::Q)->Am.snap h' B=some (aE.enc base)) (hM: ∀h',ah h' (.cU dp P FP::Q)->Am.snap h' mo=some (aE.enc more)) {K:dz->Prop}
  (hK: ∀v F h',ah h' (.iA 2 ((ct (jP cA base aZ) more).map Item.d) v F:: .cU dp P FP::Q)->K (.ret v h')):
  ∃r,bN (du pr) (call (du pr)) 22 [.agg (bB aw n aA C a b K0 agg col D0 [L,R,KS,i64 bF,B,P]),i64 cA,mo] h=some r/\K r:=by
   have h1:=kF hp base (cF hb);have hml:more.length<=100:=(cE hm).1;rw[mh rfl];refine cS (hp.out _ rfl) ?_;conv=>whnf
   intro k1 a1 dw dC;replace S:=S.alloc dw dC;conv=>whnf
   refine aI (S.row 0 rfl) ?_;conv=>whnf
   refine cI S h1 rfl (bm (hB _ (S.drop 0)) (dc _)) fun v1 q1 F1 S1=>?_;replace S:=S1;clear S1;have tL:gi base/\base.length<=100+100*0:=⟨cF hb,by have:=(cE hb).1;omega⟩;conv=>whnf
   refine dh (fun m tm hp=>∃(j:Nat)(z:List Item)(D:af)(F:List Nat),j+m=aZ.length/\tm 7=D/\tm 8=i64 (j:Nat)/\ah hp (.iA 2 (z.map Item.d) D F:: .row k1 (.box (.agg (bB aw n aA C a b K0 agg col D0 [L,R,KS,i64 bF,B,P]))):: .cU dp P FP::Q)/\(gi z/\z.length<=100+100*j)/\(jP cA base aZ=jP cA z (aZ.drop j))) (fun m tm hq bz hI=>?_) (aZ.length) ⟨0,base,v1,F1,by simp,rfl,rfl,S,(tL),(rfl)⟩;obtain⟨j,z,D,F,hj,e7,e8,S2,hz,aD⟩:=hI;have k1:=bz 1 (by kernel_rfl);conv at k1=>rhs;whnf
   have k2:=bz 2 (by kernel_rfl);conv at k2=>rhs;whnf
   have k3:=bz 3 (by kernel_rfl);conv at k3=>rhs;whnf
   refine⟨[(1,_),(2,_),(3,_),(7,_),(8,_)],⟨k1,k2,k3,e7,e8,trivial⟩,?_⟩;clear bz k1 k2 k3 e7 e8;replace S:=S2;clear S2;conv=>whnf
   have fw:j<4611686018427387904:=by omega
   have mY:Am.snap hq D=some (aE.enc z):=aE.fU (show qS _ _ _ _ _ from S.get 0 rfl).1;refine aI (S.row 1 rfl) ?_;conv=>whnf
   rcases MY hd (S.get 2 rfl)with⟨rfl,hn⟩|rfl|⟨id,vs,rfl,dT,ji⟩
   ·have bq:j=aZ.length:=by omega
    subst bq;conv=>whnf
    rw[aL]at aD;have Xi:jP cA base aZ=z:=aD;have h2:=kH hp z more hz.1 (cF hm) (by simp[cM];omega);rw[<-Xi]at h2 mY;conv=>whnf
    refine cI S h2 rfl (bm mY (bm (hM _ (S.my 2)) (dc _))) fun v' h' F' S1=>?_;conv=>whnf
    exact⟨_,rfl,hK _ _ _ (S1.drop 1|>.drop 1)⟩
   ·conv=>whnf
    refine ae (fun h1=>?_) (fun h1=>?_)
    ·have bq:j<aZ.length:=by simpa using h1
     have cx:(aZ.map cC.enc)[((j:Nat):Int).toNat]?=some (cC.enc aZ[j]):=by rw[aq];simp[bq]
     rw[ar bq]at aD;have hx:=ho _ (ay bq);skip;generalize aZ[j]=x at cx aD hx;obtain⟨t,out⟩:=x;have xm:out.length<=100:=(cE hx).1;have sU:(ct z out).length<=z.length+out.length/\ ∀x∈ct z out,x.row.length<=cM:=fp hz.1.2 (cF hx).2;have h2:=kH hp z out hz.1 (cF hx) (by simp[cM];omega);simp only[jP]at aD;conv=>whnf
     refine aI (S.row 1 rfl) ?_;conv=>whnf
     refine⟨_,cx,by omega,rfl,?_⟩;conv=>whnf
     refine ae (fun h3=>?_) (fun h3=>?_)
     ·rw[if_pos (by simpa using h3)]at aD;conv=>whnf
      refine aI (S.row 1 rfl) ?_;conv=>whnf
      refine⟨_,cx,by omega,rfl,?_⟩;conv=>whnf
      refine cI S h2 rfl (bm mY (bm rfl (dc _))) fun v' h' F' S1=>?_;have S2:=S1.drop 1;conv=>whnf
      exact⟨m-1,by omega,j+1,ct z out,v',F',by omega,rfl,aQ j fw,S2,⟨⟨by have:=sU.1;simp[cM];omega,sU.2⟩,by have:=sU.1;omega⟩,aD⟩
     ·rw[if_neg (by simpa using h3)]at aD;conv=>whnf
      exact⟨m-1,by omega,j+1,z,D,F,by omega,rfl,aQ j fw,S,⟨hz.1,by omega⟩,aD⟩
    ·have bq:j=aZ.length:=by
      have: ¬j<aZ.length:=by simpa using h1
      omega
     subst bq;rw[aL]at aD;have Xi:jP cA base aZ=z:=aD;have h2:=kH hp z more hz.1 (cF hm) (by simp[cM];omega);rw[<-Xi]at h2 mY;conv=>whnf
     refine cI S h2 rfl (bm mY (bm (hM _ (S.my 2)) (dc _))) fun v' h' F' S1=>?_;conv=>whnf
     exact⟨_,rfl,hK _ _ _ (S1.drop 1|>.drop 1)⟩
   ·conv=>whnf
    refine ae (fun h1=>?_) (fun h1=>?_)
    ·have bq:j<aZ.length:=by simpa using h1
     have cx:True:=trivial;rw[ar bq]at aD;have hx:=ho _ (ay bq);replace ji:=ji j _ (au bq);generalize aZ[j]=x at cx aD hx ji;obtain⟨t,out⟩:=x;obtain⟨O,GO,aae,gO⟩:=ji;have RU:vs[0+((j:Nat):Int).toNat]?=some (.agg [i64 t,O]):=by rw[bg,aq];exact aae
     have xm:out.length<=100:=(cE hx).1;have sU:(ct z out).length<=z.length+out.length/\ ∀x∈ct z out,x.row.length<=cM:=fp hz.1.2 (cF hx).2;have h2:=kH hp z out hz.1 (cF hx) (by simp[cM];omega);simp only[jP]at aD;conv=>whnf
     refine aI (S.row 1 rfl) ?_;conv=>whnf
     refine⟨vs,dT,⟨by omega,by omega⟩,?_⟩;conv=>whnf
     refine .inr ⟨_,_,_,dT,RU,?_⟩;conv=>whnf
     refine ae (fun h3=>?_) (fun h3=>?_)
     ·rw[if_pos (by simpa using h3)]at aD;conv=>whnf
      refine aI (S.row 1 rfl) ?_;conv=>whnf
      refine⟨vs,dT,⟨by omega,by omega⟩,?_⟩;conv=>whnf
      refine .inr ⟨_,_,_,dT,RU,?_⟩;have hso:Am.snap hq O=some (aE.enc out):=aE.fU gO;conv=>whnf
      refine cI S h2 rfl (bm mY (bm hso (dc _))) fun v' h' F' S1=>?_;have S2:=S1.drop 1;conv=>whnf
      exact⟨m-1,by omega,j+1,ct z out,v',F',by omega,rfl,aQ j fw,S2,⟨⟨by have:=sU.1;simp[cM];omega,sU.2⟩,by have:=sU.1;omega⟩,aD⟩
     ·rw[if_neg (by simpa using h3)]at aD;conv=>whnf
      exact⟨m-1,by omega,j+1,z,D,F,by omega,rfl,aQ j fw,S,⟨hz.1,by omega⟩,aD⟩
    ·have bq:j=aZ.length:=by simp at h1;omega
     subst bq;rw[aL]at aD;have Xi:jP cA base aZ=z:=aD;have h2:=kH hp z more hz.1 (cF hm) (by simp[cM];omega);rw[<-Xi]at h2 mY;conv=>whnf
     refine cI S h2 rfl (bm mY (bm (hM _ (S.my 2)) (dc _))) fun v' h' F' S1=>?_;conv=>whnf
     exact⟨_,rfl,hK _ _ _ (S1.drop 1|>.drop 1)⟩
end Go.Proofs.YtfepbikckfehlaaGreat

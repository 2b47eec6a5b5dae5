/- Stores that are ok, what is read of them: the program's. -/
import Derived.Test.YtfepbikckfehlaaGreatGH42
import Derived.Test.YtfepbikckfehlaaGreatGH37
set_option linter.unusedVariables false
set_option linter.unusedSimpArgs false
set_option maxHeartbeats 4000000
set_option pp.deepTerms false
set_option pp.deepTerms.threshold 60
namespace Go.Proofs.YtfepbikckfehlaaGreat
open Go Go.Am
variable{pr:bL}(hp:bV pr)
set_option maxRecDepth 100000
theorem JX{cf:dS}{tm:Nat->af}{h:aC}{t:TypeId}{a:Operand}{id i off sz:Nat}{es:List af}{x v v':af}(ha:ev cf.G tm a=some (.ptr id i off))(hx:h[id]?=some (.arr sz es))(hi:es[i]?=some x)(hp:ff cf.P t x off=some v)(he:v'=v):
  aT cf tm h (.load t a)=some (.val v' h):=by
   subst he;simp only[aT,ha,jq,hx,hi,hp,bh]
theorem XH{cf:dS}{tm:Nat->af}{h:aC}{t:TypeId}{a b:Operand}{id s len sz:Nat}{κ:IntKind}{i:Int}{p:TypeId}{es:List af}{v:af}(ha:ev cf.G tm a=some (.own id s len))(hb:ev cf.G tm b=some (.int κ i))(ht:kT cf.P t=some (p,sz))(hx:h[id]?=some (.arr sz es))(hi:0<=i/\i<len)(he:v= .ptr id (s+i.toNat) 0):
  aT cf tm h (.indexAddr t a b)=some (.val v h):=by
   subst he;simp only[aT,ha,hb,tZ,ht,hx];rw[if_pos ⟨hi.1,hi.2,trivial⟩];rfl
def wX(s:bJ):Prop:=s.d.eX<=500000/\ -100<=s.now/\s.now<=100/\0<=s.keep/\s.keep<=100
theorem bP.Tz{h:aC}{d:ba}{v:af}{F:List Nat}(ho:bP h d v F)(hd:d.dep<=4000010):bS h 4194303 v=some d.enc:=((uH (h:=h) _).1 d v F 4194302 (aB _) ho (by omega)).1
theorem Qr{h:aC}{Ee:Nat}{aF:List (List Item)}{aK:List View}{now keep:Int}{T V:af}{F2 F3:List Nat}(hw:h[Ee]?=some (.arr 1 [i64 2,i64 2]))(hT:bP h (.a 1 (aF.map aE.da)) T F2)(hV:bP h (.a 25 (aK.map View.da)) V F3)(hd: ∀v∈aK,v.d.eX<=1048576):
  Am.snap h (.agg [.own Ee 0 1,T,V,i64 now,i64 keep])=some (bJ.enc ⟨[2],aF,aK,now,keep⟩):=by
   have e1:bS h 4194303 (.own Ee 0 1)=some (.sl [i64 2]):=by
    show(match h[Ee]? with
     |some (.arr _ es)=>if 0+1<=es.length then(cp (bS h 4194302) ((es.drop 0).take 1)).map af.sl else none
     |_=>none)=_
    rw[hw];rfl
   have d2:ba.cZ (aF.map aE.da)<=16:=lW fun d hd=>by obtain⟨z,_,rfl⟩:=bj.1 hd;exact aE.r5 z
   have d3:ba.cZ (aK.map View.da)<=4000001:=lW fun d HF=>by obtain⟨z,hz,rfl⟩:=bj.1 HF;exact r5 (hd z hz)
   have e2:=bP.Tz hT (by simp only[ba.dep];omega);have e3:=bP.Tz hV (by simp only[ba.dep];omega);have h1:ba.cz (aF.map aE.da)=aF.map aE.enc:=iD aE.gS _;have h2:ba.cz (aK.map View.da)=aK.map View.enc:=iD View.gS _;simp only[ba.enc,h1]at e2;simp only[ba.enc,h2]at e3;show(cp (bS h 4194303) [.own Ee 0 1,T,V,i64 now,i64 keep]).map af.agg=_;have e4: ∀n,bS h 4194303 (i64 n)=some (i64 n):=fun n=>rfl;simp only[cp,e1,e2,e3,e4];rfl
theorem Sm{n:Nat}{z:List Item}(h:z.length<=n/\ ∀x∈z,x.row.length<=10):(aE.d z).eX<=11*n:=by
 have key: ∀xs:List Item,(∀x∈xs,x.row.length<=10)->ba.eQ (xs.map Item.d)<=10*xs.length:=by
  intro xs
  induction xs with
  |nil=>intro _;simp[ba.eQ]
  |cons x xs ih=>
   intro hx;have:=ih fun y hy=>hx y (by simp[hy]);have h2:=hx x (by simp);simp only[aM,ba.eQ,Item.eX,aJ];omega
 have:=key z h.2;have:=h.1;simp only[aE.d,ba.eX,aO];omega
theorem AV(z:List Item)(x:Item):(aE.d (z++[x])).eX=(aE.d z).eX+1+x.row.length:=by
 have key: ∀xs:List Item,ba.eQ ((xs++[x]).map Item.d)=ba.eQ (xs.map Item.d)+x.row.length:=by
  intro xs
  induction xs with
  |nil=>simp[ba.eQ,Item.eX]
  |cons y ys ih=>simp only[List.cons_append,aM,ba.eQ,ih];omega
 simp only[aE.d,ba.eX,aO,key,List.length_append,aJ,List.length_nil];omega
theorem JY(hp:bV pr){h:aC}{L:List Chunk}{k n:Nat}(S:ah h (.rd k n::L))(hn:n<=70000000000){K:dz->Prop}
  (hK: ∀(s:bJ) h',wX s->ah h' (.rd k (n+100000)::L)->K (.ret s.enc h')):
  ∃r,bN (du pr) (call (du pr)) 17 [.ptr k 0 0] h=some r/\K r:=by
   refine JQ (m:=n+100000) (P:=fun x=>∃s:bJ,x=s.enc/\wX s) rfl (hp.out _ rfl) S (fun L S=>?_) fun x h' hx S1=>by
    obtain⟨s,rfl,h1⟩:=hx;exact hK s h' h1 S1
   clear hK K
   have fin: ∀{h2:aC}{n2:Nat}{d:ba}{v:af}{F:List Nat}{s:bJ},n2<=n+100000->d.enc=s.enc->d.dep<=4000000->wX s->ah h2 (.cU d v F:: .rd k n2::L)->
     ∃v' h1 x CR,dz.ret v h2= .ret v' h1/\ah h1 (CR:: .rd k (n+100000)::L)/\(∀h',CR.P h'->Am.snap h' v'=some x)/\ ∃s:bJ,x=s.enc/\wX s:=by
      intro h2 n2 d v F s U5 he hd je S2;exact⟨_,_,_,_,rfl,(ah.eh S2.swap U5).swap,fun h' ho=>bP.snap (show bP h' d v F from ho) (by omega),s,he,je⟩
   have XI:=M6 hp;conv=>whnf
   intro k1 a1 dw dC;replace S:=(S.alloc dw dC).swap;conv=>whnf
   refine ek S XI rfl rfl fun v q1 F1 o1 S1=>?_;clear S XI;have S:=S1;clear S1;obtain⟨W,T,V,rfl,fJ,_,_⟩:=iy o1;clear o1;conv=>whnf
   intro k2 a2 jf iB;replace S:=S.alloc jf iB;conv=>whnf
   refine⟨[W,T,V,i64 _,i64 _],(by kernel_rfl),rfl,fJ,.inl ⟨_,S.row 0 rfl,rfl,?_⟩⟩;conv=>whnf
   intro h1 Qq;replace S:=S.w0 Qq;conv=>whnf
   replace S:=S.q2;replace S:=S.q2;replace S:=S.swap;refine di hp _ S (by omega) fun c h2 hc S1=>?_;replace S:=S1;clear S1;have KP:0<=c/\c<=8:=by unfold QJ at hc;omega
   conv=>whnf
   refine dh (fun m tm hp=>∃(j:Nat)(v:af)(F:List Nat)(s:bJ)(e:Int),j+m=c.toNat/\tm 4=i64 e/\ah hp (.rd k (n+1+2000*j):: .cU s.da v F:: .row k2 (.box v):: .row k1 (.box qD)::L)/\(sP s)/\(e=c-(j:Int))) (fun m tm hq bz hI=>?_) (c.toNat) ⟨0,.agg [W,T,V,i64 0,i64 0],F1,AJ,c,by simp,rfl,S,(JT),(by simp)⟩;obtain⟨j,v,F,s,e,hj,e4,S2,hs,he⟩:=hI;have k0:=bz 0 (by kernel_rfl);conv at k0=>rhs;whnf
   have k2:=bz 2 (by kernel_rfl);conv at k2=>rhs;whnf
   have k3:=bz 3 (by kernel_rfl);conv at k3=>rhs;whnf
   refine⟨[(0,_),(2,_),(3,_),(4,_)],⟨k0,k2,k3,e4,trivial⟩,?_⟩;clear bz k0 k2 k3 e4;replace S:=S2;clear S2;conv=>whnf
   refine ae (fun g1=>?_) (fun g1=>?_)
   ·obtain⟨W,T,V,rfl,fJ,_,_⟩:=iy (show bP _ _ v F from S.get 1 rfl);conv=>whnf
    refine aI (S.row 2 rfl) ?_;conv=>whnf
    refine Qp hp hs S (by omega) fun s' v' F' h3 Ko S1=>?_;replace S:=S1;clear S1;obtain⟨W2,T2,V2,rfl,Sn,_,_⟩:=iy (show bP _ _ v' F' from S.get 1 rfl);conv=>whnf
    refine⟨[W2,T2,V2,i64 _,i64 _],(by kernel_rfl),rfl,Sn,.inl ⟨_,S.row 2 rfl,rfl,?_⟩⟩;conv=>whnf
    intro h4 vA;replace S:=S.w2 vA;conv=>whnf
    exact⟨m-1,by simp at g1;omega,j+1,_,_,s',_,by simp at g1;omega,rfl,ah.eh S (by omega),Ko,by rw[aY];simp at g1;omega⟩
   ·conv=>whnf
    have hjc:j<=8:=by simp at g1;omega
    refine di hp _ S (by omega) fun x h3 hx S1=>?_;replace S:=S1;clear S1;conv=>whnf
    have hi:=dW.1 hs.1;have tQ:=AQ hs;have hwd:=hs.2.1;obtain⟨bc,aF,aK,now,keep⟩:=s;dsimp only at hi hwd;subst hwd;replace S:=S.q1;obtain⟨W,T,V,F1,F2,F3,rfl,cW,cT,cV,S2⟩:=ah.gT S;clear S;have S:=S2;clear S2;have hnw:0<=now/\now<=40/\0<=keep/\keep<=40:=by omega
    replace S:=S.q3;have hW:=Br (show bP _ (.a 1 ([2,2].map ba.i)) W F1 from S.get 1 rfl);have hT:=Br (show bP _ (.a 1 (aF.map aE.da)) T F2 from S.get 2 rfl);have hV:=Br (show bP _ (.a 25 (aK.map View.da)) V F3 from S.get 3 rfl)
    -- S: rd,W,T,V,k2,k1
    refine ae (fun g2=>?_) (fun g2=>?_)
    ·conv=>whnf
     intro k3 a3 kS jN;replace S:=(S.alloc kS jN).swap;conv=>whnf
     refine kQ hp [-1,40,41] (by simp) (by simp) S (by omega) fun y h4 hy S1=>?_;replace S:=S1;clear S1;conv=>whnf
     refine⟨_,rfl,rfl,rfl,.inl ⟨_,S.row 4 rfl,rfl,?_⟩⟩;conv=>whnf
     intro h5 mB;replace S:=S.w4 mB;conv=>whnf
     refine aI (S.row 4 rfl) ?_;conv=>whnf
     refine⟨[W,T,V,i64 y,i64 keep],(by kernel_rfl),rfl,(bC cW (bC cT (bC cV rfl))),.inl ⟨_,S.row 5 rfl,rfl,?_⟩⟩;conv=>whnf
     intro h6 fO;replace S:=S.w5 fO;conv=>whnf
     have S2:=(S.drop 4).drop 4;dsimp only[List.eraseIdx]at S2;replace S2:=ah.fZ (now:=y) (keep:=keep) (((S2.front 3 rfl).front 3 rfl).front 3 rfl);exact⟨_,dI rfl rfl (S.row 5 rfl) rfl,fin (by omega) (bJ.gS _) (lC (by simp only[d5]at tQ⊢;omega)) ⟨by simp only[d5]at tQ⊢;omega,by simp at hy;dsimp only;omega,by simp at hy;dsimp only;omega,by dsimp only;omega,by dsimp only;omega⟩ S2⟩
    conv=>whnf
    refine ae (fun g3=>?_) (fun g3=>?_)
    ·rcases hW with⟨_,h0⟩|⟨Ee,rfl⟩
     ·simp at h0
     have Sf: ∀v∈aK,v.d.eX<=1048576:=fun v hv=>by
      have h1:=d5 ⟨[2,2],aF,aK,now,keep⟩;have h2:=ed (f:=View.d) hv;dsimp only at h1;omega
     conv=>whnf
     refine aI (S.row 4 rfl) ?_;conv=>whnf
     replace S:=S.q1;rcases ah.AE S with⟨hx,_,_⟩|⟨yu,vs,Fs,cq,rfl,S1⟩
     ·simp at hx
     injection cq with rW _ DT;subst rW
     have sF:vs=[i64 2,i64 2]:=by
      have h0:bZ _ ([2,2].map ba.i) vs Fs:=S1.get 1 rfl;simp only[aM,List.map_nil,bZ,bP]at h0;obtain⟨u1,w1,_,_,rfl,_,⟨rfl,_⟩,u2,w2,_,_,rfl,_,⟨rfl,_⟩,rfl,_⟩:=h0;rfl
     subst sF;have S:=S1.drop 1;clear S1;dsimp only[List.eraseIdx]at S;refine⟨_,S.row 0 rfl,by decide,?_⟩;conv=>whnf
     refine⟨[.own Ee 0 1],(by kernel_rfl),rfl,rfl,.inl ⟨_,S.row 4 rfl,rfl,?_⟩⟩;conv=>whnf
     intro h4 vA;replace S:=S.w4 vA;conv=>whnf
     refine aI (S.row 4 rfl) ?_;conv=>whnf
     refine⟨[.own Ee 0 1,T,V,i64 now,i64 keep],(by kernel_rfl),rfl,(bC rfl (bC cT (bC cV rfl))),.inl ⟨_,S.row 5 rfl,rfl,?_⟩⟩;conv=>whnf
     intro h5 mB;replace S:=S.w5 mB;conv=>whnf
     have S2:=(S.drop 4).drop 4;dsimp only[List.eraseIdx]at S2;have S3:=ah.pair ((S2.front 3 rfl).front 3 rfl);have S4:=ah.pair (S3.front 1 rfl);dsimp only[List.eraseIdx]at S4;exact⟨_,dI rfl rfl (S.row 5 rfl) rfl,_,_,_,_,rfl,(ah.eh S4.swap (by omega)).swap,fun h' ho=>Qr ho.1 ho.2.1 ho.2.2 Sf,⟨[2],aF,aK,now,keep⟩,rfl,by simp only[d5,aJ,List.length_nil]at tQ⊢;omega,by dsimp only;omega,by dsimp only;omega,by dsimp only;omega,by dsimp only;omega⟩
    conv=>whnf
    refine ae (fun g4=>?_) (fun g4=>?_)
    ·conv=>whnf
     refine aI (S.row 4 rfl) ?_;conv=>whnf
     rcases hV with⟨rfl,tV⟩|⟨idV,rfl⟩
     ·conv=>whnf
      refine aI (S.row 4 rfl) ?_;conv=>whnf
      refine⟨[W,T,.nil,i64 now,i64 keep],(by kernel_rfl),rfl,(bC cW (bC cT (bC rfl rfl))),.inl ⟨_,S.row 5 rfl,rfl,?_⟩⟩;conv=>whnf
      intro h6 fO;replace S:=S.w5 fO;conv=>whnf
      have S2:=(S.drop 4).drop 4;dsimp only[List.eraseIdx]at S2;replace S2:=ah.fZ (now:=now) (keep:=keep) (((S2.front 3 rfl).front 3 rfl).front 3 rfl);exact⟨_,dI rfl rfl (S.row 5 rfl) rfl,fin (by omega) (bJ.gS _) (lC (by omega)) ⟨by omega,by dsimp only;omega,by dsimp only;omega,by dsimp only;omega,by dsimp only;omega⟩ S2⟩
     ·conv=>whnf
      refine ae (fun g6=>?_) (fun g6=>?_)
      ·cases aK with
       |nil=>simp at g6
       |cons v0 vr=>
       conv=>whnf
       refine aI (S.row 4 rfl) ?_;conv=>whnf
       refine Sh hp 2 3 (by omega) (by omega) S (by omega) fun z B FB h4 hz S1=>?_;replace S:=S1;clear S1;have cB:=(show qS 2 _ _ B FB from S.get 1 rfl).1.cell;conv=>whnf
       refine⟨?_,?_⟩
       ·repeat
         ((conv=>whnf);first|trivial|refine⟨by first|((conv=>whnf);exact bO rfl (S.row 5 rfl) rfl rfl),?_⟩)
       conv=>whnf
       replace S:=S.q4;rcases ah.AE S with⟨hx,_,_⟩|⟨yu,vs,Fs,cq,rfl,S1⟩
       ·simp at hx
       injection cq with rW _ DT;subst rW;obtain⟨⟨⟨aw,pn,aA,cells,a,b,ao,agg,col,al⟩,l,r,ks⟩,bF,base,aZ⟩:=v0;obtain⟨XA,xv,XB,FA,G,FB2,rfl,UX,S2⟩:=ah.Cq (A:=[]) S1.swap;clear S S1;obtain rfl:XA=[]:=bk.1 UX;obtain⟨C,K,DD,L5,R5,KS,B0,P0,H1,H2,H3,rfl,rq,cB0,cP0,S⟩:=ah.Lf S2;clear S2;refine⟨_,S.row 5 rfl,⟨by decide,by simp⟩,?_⟩;conv=>whnf
       refine⟨[B],cB.1,rfl,FL cB.2,.inr ⟨_,_,_,S.row 5 rfl,rfl,?_⟩⟩;conv=>whnf
       intro h5 mB;replace S:=S.w5 mB;conv=>whnf
       refine aI (S.row 10 rfl) ?_;conv=>whnf
       refine⟨[W,T,.own idV 0 (vr.length+1),i64 now,i64 keep],(by kernel_rfl),rfl,(bC cW (bC cT (bC rfl rfl))),.inl ⟨_,S.row 11 rfl,rfl,?_⟩⟩;conv=>whnf
       intro h6 fO;replace S:=S.Za fO;conv=>whnf
       have S2:=((S.drop 11).drop 10).drop 1;dsimp only[List.eraseIdx]at S2;replace S2:=S2.q6;replace S2:=ah.Bq (sA (bF:=bF) (ah.dv S2).swap);have S3:=ah.qH (n:=vr.length+1) (xs:=List.map View.da (⟨.mk (.mk aw pn aA cells a b ao agg col al) l r ks,bF,z,aZ⟩::vr)) S2.swap (by simp);replace S3:=(S3.front 3 rfl).front 3 rfl;dsimp only[List.eraseIdx]at S3;replace S3:=ah.fZ (now:=now) (keep:=keep) S3;have M5:=Sm (n:=3) (z:=z) ⟨hz.1,fun x hx=>by have:=(hz.2 x hx).1;omega⟩;exact⟨_,dI rfl rfl (S.row 11 rfl) rfl,fin (by omega) (bJ.gS _) (lC (by simp only[d5,aM,ba.eQ,nD,aJ]at tQ⊢;omega)) ⟨by simp only[d5,aM,ba.eQ,nD,aJ]at tQ⊢;omega,by dsimp only;omega,by dsimp only;omega,by dsimp only;omega,by dsimp only;omega⟩ S3⟩
      ·conv=>whnf
       refine aI (S.row 4 rfl) ?_;conv=>whnf
       refine⟨[W,T,.own idV 0 aK.length,i64 now,i64 keep],(by kernel_rfl),rfl,(bC cW (bC cT (bC rfl rfl))),.inl ⟨_,S.row 5 rfl,rfl,?_⟩⟩;conv=>whnf
       intro h6 fO;replace S:=S.w5 fO;conv=>whnf
       have S2:=(S.drop 4).drop 4;dsimp only[List.eraseIdx]at S2;replace S2:=ah.fZ (now:=now) (keep:=keep) (((S2.front 3 rfl).front 3 rfl).front 3 rfl);exact⟨_,dI rfl rfl (S.row 5 rfl) rfl,fin (by omega) (bJ.gS _) (lC (by omega)) ⟨by omega,by dsimp only;omega,by dsimp only;omega,by dsimp only;omega,by dsimp only;omega⟩ S2⟩
    conv=>whnf
    refine ae (fun g5=>?_) (fun g5=>?_)
    ·rcases hT with⟨_,h0⟩|⟨M4,rfl⟩
     ·rw[h0]at hi;simp at hi
     conv=>whnf
     refine aI (S.row 4 rfl) ?_;conv=>whnf
     refine aI (S.row 4 rfl) ?_;conv=>whnf
     replace S:=S.q2;rcases ah.AE S with⟨hx,_,_⟩|⟨yu,vs,Fs,cq,rfl,S1⟩
     ·rw[List.map_eq_nil_iff]at hx;rw[hx]at hi;simp at hi
     injection cq with rW _ DT;subst rW
     obtain⟨t0,tr,rfl⟩: ∃t0 tr,aF=t0::tr:=by
      cases aF with
      |nil=>simp at hi
      |cons a b=>exact⟨a,b,rfl⟩
     obtain⟨v0,vr,G1,G2,rfl,rfl,S2⟩:=ah.tD S1.swap;clear S S1;have S:=S2;clear S2;have tL:c7 t0=true:=(mP.1 (lY hi.2.2.2.2.2.2.1 0 t0 2 rfl rfl).2).2;have Bd:=(cE tL).1;have tV:=Br (show bP _ (.a 2 (t0.map Item.d)) v0 G1 from S.get 0 rfl);have UP:ff (du pr).P 30 v0 0=some v0:=by rcases tV with⟨rfl,_⟩|⟨_,rfl⟩<;>rfl
     refine⟨_,S.row 2 rfl,⟨by decide,by simp⟩,?_⟩;conv=>whnf
     refine .inr ⟨_,_,_,S.row 2 rfl,rfl,eV (v:=v0) UP ?_⟩;conv=>whnf
     intro ka aa hka hha;replace S:=S.alloc hka hha;conv=>whnf
     intro kb ab Sj Sk;replace S:=S.alloc Sj Sk;conv=>whnf
     replace S:=S.q5;refine kQ hp [-1,1] (by simp) (by simp) S (by omega) fun w h4 hw S1=>?_;replace S:=S1;clear S1;conv=>whnf
     refine⟨?_,?_⟩
     ·repeat
       ((conv=>whnf);first|trivial|refine⟨by first|((conv=>whnf);exact⟨_,rfl,S.row 1 rfl⟩)|((conv=>whnf);exact XH rfl rfl rfl (S.row 4 rfl) ⟨by decide,by simp⟩ rfl)|((conv=>whnf);exact JX rfl (S.row 4 rfl) rfl UP rfl)|((conv=>whnf);exact⟨_,rfl,S.row 4 rfl⟩)|((conv=>whnf);exact bO rfl (S.row 7 rfl) rfl rfl),?_⟩)
     conv=>whnf
     replace S:=S.q1;have S2:ah h4 (.cU (gq.d [99,0]) (.own ka 0 2) [ka]::_):=ah.close (n:=2) (S.more (c:=.dy [.i 99,.i 0] [i64 99,i64 0] []) (List.prefix_refl _) (eW (nk 99) (nk 0)) (by simp[Chunk.dy]) (by simp[Chunk.dy])).swap rfl;replace S:=qh (w:=w) S2;clear S2;replace S:=S.q2;replace S:=ah.JD S;intro nM nN de dg;replace S:=S.alloc de dg;conv=>whnf
     refine⟨trivial,?_⟩;conv=>whnf
     refine⟨[_],bG (S.row 0 rfl),ef rfl rfl,?_⟩;replace S:=S.drop 0;dsimp only[List.eraseIdx]at S;refine jM (sz:=2) (d:=Item.d ⟨[99,0],w⟩) S (by simp[br];omega) fun k6 h6 F6 S2=>?_;clear S;have S:=S2;clear S2;conv=>whnf
     refine⟨?_,?_⟩
     ·repeat
       ((conv=>whnf);first|trivial|refine⟨by first|((conv=>whnf);exact⟨_,rfl,S.row 1 rfl⟩)|((conv=>whnf);exact bO rfl (S.row 6 rfl) rfl rfl),?_⟩)
     conv=>whnf
     rcases tV with⟨rfl,_⟩|⟨_,rfl⟩
     all_goals
      refine⟨_,S.row 3 rfl,⟨by decide,by simp⟩,?_⟩;conv=>whnf
      refine⟨_,rfl,rfl,rfl,.inr ⟨_,_,_,S.row 3 rfl,rfl,?_⟩⟩;conv=>whnf
      intro h7 hh7;replace S:=S.w3 hh7;conv=>whnf
      refine aI (S.row 6 rfl) ?_;conv=>whnf
      refine⟨[W,.own M4 0 (tr.length+1),V,i64 now,i64 keep],(by kernel_rfl),rfl,(bC cW (bC rfl (bC cV rfl))),.inl ⟨_,S.row 7 rfl,rfl,?_⟩⟩;conv=>whnf
      intro h8 nK;replace S:=S.w7 nK;conv=>whnf
      have S2:=(S.drop 7).drop 6;dsimp only[List.eraseIdx]at S2;replace S2:=ah.pH S2;rw[show List.map Item.d t0++[Item.d ⟨[99,0],w⟩]=List.map Item.d (t0++[⟨[99,0],w⟩]) by simp]at S2;replace S2:=S2.q2;have S3:=ah.Pp (d:=aE.da (t0++[⟨[99,0],w⟩])) S2.swap;clear S2;have S2:=S3.front 2 rfl;dsimp only[List.eraseIdx]at S2;replace S2:=ah.qH (n:=tr.length+1) (xs:=List.map aE.da ((t0++[⟨[99,0],w⟩])::tr)) S2 (by simp);replace S2:=((S2.front 3 rfl).front 1 rfl).front 3 rfl;dsimp only[List.eraseIdx]at S2;replace S2:=ah.fZ (now:=now) (keep:=keep) S2;have M5:=AV t0 ⟨[99,0],w⟩
      have M1:(bJ.d ⟨[2,2],(t0++[⟨[99,0],w⟩])::tr,aK,now,keep⟩).eX<=400100:=by
       simp only[d5,bM.d,ba.eX,aM,aJ,ba.eQ,List.length_nil]at tQ M5⊢;omega
      exact⟨_,dI rfl rfl (S.row 7 rfl) rfl,fin (by omega) (bJ.gS _) (lC (by omega)) ⟨by omega,by dsimp only;omega,by dsimp only;omega,by dsimp only;omega,by dsimp only;omega⟩ S2⟩
    ·conv=>whnf
     refine aI (S.row 4 rfl) ?_;conv=>whnf
     refine⟨[W,T,V,i64 now,i64 keep],(by kernel_rfl),rfl,(bC cW (bC cT (bC cV rfl))),.inl ⟨_,S.row 5 rfl,rfl,?_⟩⟩;conv=>whnf
     intro h6 fO;replace S:=S.w5 fO;conv=>whnf
     have S2:=(S.drop 4).drop 4;dsimp only[List.eraseIdx]at S2;replace S2:=ah.fZ (now:=now) (keep:=keep) (((S2.front 3 rfl).front 3 rfl).front 3 rfl);exact⟨_,dI rfl rfl (S.row 5 rfl) rfl,fin (by omega) (bJ.gS _) (lC (by omega)) ⟨by omega,by dsimp only;omega,by dsimp only;omega,by dsimp only;omega,by dsimp only;omega⟩ S2⟩
theorem So{P:Program}{fn:Func}{st:St}{a b d t k:Nat}{u w x v:af}(hr:fn.results.toList=[.cell d t,.tmp a,.tmp b])(ha:st.tm a=u)(hb:st.tm b=w)(ht:st.tm d= .ptr k 0 0)(hk:st.hp[k]?=some (.box x))(hv:ff P t x 0=some v):oZ P fn (some (.ret st))=some (.ret (.dX [v,u,w]) st.hp):=by
 have h1:i6 P st (.cell d t)=some v:=by
  simp only[i6,ht,jq,hk,if_true,hv]
 have h2:i6 P st (.tmp a)=some u:=by simp only[i6,ha]
 have h3:i6 P st (.tmp b)=some w:=by simp only[i6,hb]
 simp only[oZ,hr,cp,h1,h2,h3,bh];rfl
theorem Qs(hp:bV pr)(bs:List Int)(hb: ∀b∈bs,0<=b/\b<256)(A1:bs.length<=1048576): ∃(s:bJ)(view cA:Int),wX s/\dm pr 5 [.sl (bs.map u8)] (.dX [s.enc,i64 view,i64 cA]):=by
 suffices hw:wv (du pr) 5 [.sl (bs.map u8)] [] (fun r=>∃(s:bJ)(view cA:Int),wX s/\ ∃v h1,r= .ret v h1/\snap h1 v=some (.dX [s.enc,i64 view,i64 cA])) by
  obtain⟨r,hr,s,view,cA,hz,v,h1,rfl,hs⟩:=cS (hp.out _ rfl) hw;refine⟨s,view,cA,hz,fun h=>?_⟩;have hm:(du pr).M 5= .P:=yv (f:=5) rfl;have ha:cj [] [af.sl (bs.map u8)]=some [.sl (bs.map u8)]:=rfl;unfold bN;simp only[hm,ha,hr,hs,bh]
 have S:ah [] []:=ah.nil [];conv=>whnf
 intro k1 a1 dw dC;replace S:=S.alloc dw dC;conv=>whnf
 refine Qi hp bs hb A1 S fun k h1 S1=>?_;clear S;conv=>whnf
 refine JY hp S1 (by omega) fun s h2 hs S=>?_;clear S1;obtain⟨bc,aF,aK,now,keep⟩:=s;conv=>whnf
 intro k2 a2 jf iB;replace S:=S.alloc jf iB;conv=>whnf
 refine⟨_,rfl,rfl,rfl,.inl ⟨_,S.row 0 rfl,rfl,?_⟩⟩;conv=>whnf
 intro b1 eN;replace S:=S.w0 eN;conv=>whnf
 refine aI (S.row 0 rfl) ?_;conv=>whnf
 intro k3 a3 kS jN;replace S:=S.alloc kS jN;conv=>whnf
 refine aI (S.row 1 rfl) ?_;conv=>whnf
 refine aI (S.row 1 rfl) ?_;conv=>whnf
 refine aI (S.row 1 rfl) ?_;conv=>whnf
 refine aI (S.row 1 rfl) ?_;conv=>whnf
 refine aI (S.row 1 rfl) ?_;conv=>whnf
 refine aI (S.row 1 rfl) ?_;conv=>whnf
 intro k4 a4 tN pM;replace S:=((S.alloc tN pM).front 3 rfl).front 2 rfl;dsimp only[List.eraseIdx]at S;replace S:=S.swap;conv=>whnf
 refine kQ hp [0,0,0,1,1,2,-1] (by simp) (by simp) S (by omega) fun view h3 hv S1=>?_;replace S:=S1;clear S1;conv=>whnf
 refine⟨?_,?_⟩
 ·repeat
   ((conv=>whnf);first|trivial|refine⟨by first|((conv=>whnf);exact⟨_,rfl,S.row 1 rfl⟩)|((conv=>whnf);exact bO rfl (S.row 2 rfl) rfl rfl),?_⟩)
 conv=>whnf
 refine kQ hp [now,now,IntKind.i64.wrap (now-1),IntKind.i64.wrap (now-2),keep,0,IntKind.i64.wrap (now+1)] (by simp) (by simp) S (by omega) fun cA h4 hv S1=>?_;replace S:=S1;clear S1;conv=>whnf
 refine⟨?_,?_⟩
 ·repeat
   ((conv=>whnf);first|trivial|refine⟨by first|((conv=>whnf);exact bO rfl (S.row 1 rfl) rfl rfl),?_⟩)
 conv=>whnf
 refine⟨_,rfl,rfl,rfl,.inl ⟨_,S.row 2 rfl,rfl,?_⟩⟩;conv=>whnf
 intro h5 mB;replace S:=S.w2 mB;conv=>whnf
 exact⟨_,So (u:=i64 view) (w:=i64 cA) rfl rfl rfl rfl (S.row 2 rfl) rfl,⟨bc,aF,aK,now,keep⟩,view,cA,hs,_,_,rfl,rfl⟩
end Go.Proofs.YtfepbikckfehlaaGreat
set_option maxHeartbeats 4000000
namespace Go.Am
open Go
theorem CA{h:aC}{k:Nat}{fn:Fn}{x:af}(hk:h[k]?=some (.box x))(hx:bS h 4194302 x=some x):snap h (.func fn [] [.ptr k 0 0])=some (.func fn [] [.eY [x] 0 0]):=by
 show(match cp (bS h 4194303) [],cp (bS h 4194303) [af.ptr k 0 0]with
  |some a,some b=>some (af.func fn a b)
  |_,_=>none)=_
 have:bS h 4194303 (.ptr k 0 0)=some (.eY [x] 0 0):=by
  show(match h[k]? with
   |some (.box x)=>if 0=0 then(bS h 4194302 x).map (fun x=>af.eY [x] 0 0)else none
   |some (.arr _ es)=>(cp (bS h 4194302) es).map fun xs=>.eY xs 0 0
   |_=>none)=_
  rw[hk];simp only[hx,if_true,bh]
 simp only[cp,this]
end Go.Am
namespace Go.Proofs.YtfepbikckfehlaaGreat
open Go Go.Am
variable{pr:bL}(hp:bV pr)(hs:B8 pr)
set_option maxRecDepth 100000
theorem AW(hp:bV pr)(z:List Item)(wide:Int)(hl:z.length<=cM):dm pr 76 [aE.enc z,i64 wide] (.bool (mw z wide)):=by
 have h:=Gi hp wide z hl
 have he:mw z wide= !(z.any fun x:Item=>decide ((x.row.length:Int)≠wide)):=by
  unfold mw;rw[List.not_any_eq_all_not]
  congr 1
  funext x
  simp
 rw[he];refine ea hp rfl rfl ?_;have S:ah [] []:=ah.nil [];conv=>whnf
 intro k1 a1 dw dC;replace S:=S.alloc dw dC;conv=>whnf
 refine⟨_,h.here (jI rfl (CA (S.row 0 rfl) rfl)) rfl rfl,?_⟩;conv=>whnf
 refine ae (fun g1=>?_) (fun g1=>?_)
 ·conv=>whnf
  exact bH (by rw[g1];rfl)
 ·conv=>whnf
  exact bH (by rw[g1];rfl)
theorem Sp(hp:bV pr)(z:List Item)(hl:z.length<=cM):dm pr 77 [aE.enc z] (.bool (z.any fun x=>decide (x.w<0))):=by
 have h:=I2 hp 0 z hl;refine ea hp rfl rfl ?_;have S:ah [] []:=ah.nil []
 iterate 4
  all_goals(try(conv=>whnf))
  all_goals(first|(intro ke cg er bn;replace S:=S.alloc er bn)|(refine .inl ⟨_,S.row 0 rfl,rfl,?_⟩)|(refine⟨_,rfl,rfl,rfl,.inl ⟨_,S.row 0 rfl,rfl,?_⟩⟩;(conv=>whnf);intro cg bn;replace S:=S.w0 bn)|(refine ae (fun hb=>?_) (fun hb=>?_))|(refine⟨_,h _,?_⟩)|skip)
 all_goals(try(conv=>whnf))
 all_goals exact bH hb.symm
def AX(w:Int)(z:List Item):Bool:=decide (1<=w)&&(decide (w<=6)&&(c7 z&&(mw z w&& !(z.any fun x=>decide (x.w<0)))))
theorem M9(hp:bV pr)(z:List Item)(wide:Int)(hz:gi z):dm pr 45 [aE.enc z,i64 wide] (.bool (AX wide z)):=by
 have h1:=rE hp z hz;have h2:=AW hp z wide hz.1;have h3:=Sp hp z hz.1;unfold AX;generalize(z.any fun x=>decide (x.w<0))=b3 at h3⊢;generalize mw z wide=b2 at h2⊢;generalize c7 z=b1 at h1⊢;refine ea hp rfl rfl ?_;have S:ah [] []:=ah.nil []
 iterate 10
  all_goals(try(conv=>whnf))
  all_goals(first|(intro ke cg er bn;replace S:=S.alloc er bn)|(refine .inl ⟨_,S.row 0 rfl,rfl,?_⟩)|(refine⟨_,rfl,rfl,rfl,.inl ⟨_,S.row 0 rfl,rfl,?_⟩⟩;(conv=>whnf);intro cg bn;replace S:=S.w0 bn)|(refine ae (fun hb=>?_) (fun hb=>?_))|(refine⟨_,h1 _,?_⟩)|(refine⟨_,h2 _,?_⟩)|(refine⟨_,h3 _,?_⟩)|skip)
 all_goals(try(conv=>whnf))
 all_goals exact bH (by clear h1 h2 h3 S;first|(simp_all;done)|(simp_all;omega))
def jC(now wide:Int):Int->List cC->Bool
 |_,[]=>true
 |lo,p::ps=>(decide (lo<p.cA)&&(decide (p.cA<=now)&&(c7 p.out&&mw p.out wide)))&&jC now wide p.cA ps
def AY(fo:Bool)(wide lo now bF:Int)(base:List Item)(aZ:List cC):Bool:=
 fo&&(!(wide== -1)&&(decide (0<=bF)&&(decide (bF<=now)&&(c7 base&&(mw base wide&&(decide (aZ.length<=40)&&jC now wide lo aZ))))))
def gh(ws:List Int)(now keep:Int)(v:View):Bool:=
 AY (fit v.fM.dx&&jB gN v.fM) (fq v.fM.dx ws) (if keep>v.bF then keep else v.bF) now v.bF v.base v.aZ
theorem Qt(hs:B8 pr)(v:View)(s:bJ)(ht:v.d.eX<=1048576)(hw:s.bc.length<=1048576):dm pr 48 [s.enc,v.enc] (.bool (gh s.bc s.now s.keep v)):=by
 have hp:=hs.tobV;rw[nD]at ht;obtain⟨f,bF,base,aZ⟩:=v;obtain⟨bc,aF,aK,now,keep⟩:=s;simp only at ht hw;have hf:=MN hs f (by omega);obtain⟨⟨aw,n,aA,cells,a,b,ao,agg,c,al⟩,l,r,ks⟩:=f;have hw:=xO hs (.mk aw n aA cells a b ao agg c al) bc (by rw[jv]at ht;unfold ax.small;omega) hw;have hbz:=oA (z:=base) (by omega);have Ti:=rE hp base hbz;have hbw:=fun w=>AW hp base w hbz.1;have qV:=fun(x:cC)(hx:x∈aZ)=>rE hp x.out (qB (by omega) x hx);have wH:=fun(x:cC)(hx:x∈aZ) w=>AW hp x.out w (qB (by omega) x hx).1;have yt:aZ.length<=1048576:=by omega
 clear ht hbz;unfold gh;simp only[bA.dx]at hf⊢;generalize fq (ax.mk aw n aA cells a b ao agg c al) bc=wide at hw⊢;generalize HP:(fit (ax.mk aw n aA cells a b ao agg c al)&&jB gN (bA.mk (ax.mk aw n aA cells a b ao agg c al) l r ks))=fo at hf⊢;clear HP;generalize hR:AY fo wide (if keep>bF then keep else bF) now bF base aZ=R;unfold AY at hR;refine ea hp rfl rfl ?_;have S:ah [] []:=ah.nil [];conv=>whnf
 intro k1 a1 dw dC;replace S:=S.alloc dw dC;clear dw dC;conv=>whnf
 intro k2 a2 jf iB;replace S:=S.alloc jf iB;clear jf iB;have S0:ah a2 [.row k2 (.box (View.mk (.mk (.mk aw n aA cells a b ao agg c al) l r ks) bF base aZ).enc),.row k1 (.box (bJ.mk bc aF aK now keep).enc)]:=S;clear S;have S:=S0;clear S0
 iterate 24
  all_goals(try(conv=>whnf))
  all_goals(first|(intro ke cg er bn;replace S:=S.alloc er bn)|(refine .inl ⟨_,S.row 0 rfl,rfl,?_⟩)|(refine .inl ⟨_,S.row 1 rfl,rfl,?_⟩)|(refine⟨_,rfl,rfl,rfl,.inl ⟨_,S.row 0 rfl,rfl,?_⟩⟩;(conv=>whnf);intro cg bn;replace S:=S.w0 bn)|(refine⟨_,rfl,rfl,rfl,.inl ⟨_,S.row 1 rfl,rfl,?_⟩⟩;(conv=>whnf);intro cg bn;replace S:=S.w1 bn)|(refine ae (fun hb=>?_) (fun hb=>?_))|(refine⟨_,hw _,?_⟩)|(refine⟨_,hf _,?_⟩)|(refine⟨_,Ti _,?_⟩)|(refine⟨_,hbw _ _,?_⟩)|skip)
 all_goals(try(conv=>whnf))
 all_goals first
  |exact bH (by rw[<-hR];clear hR hf hw Ti hbw qV wH S;first|(simp_all;done)|(simp_all;omega)|(simp_all;intros;omega))
  |skip
 all_goals
  have f1:fo=true:=by assumption
  have f2:(wide== -1)=false:=by assumption
  have f3:aZ.length<=40:=by simp at hb;omega
  have f4:c7 base=true:=by assumption
  have f5:mw base wide=true:=by assumption
  have f6:0<=bF:=by have:decide (bF<0)=false:=by assumption
                    simpa using this
  have f7:bF<=now:=by have:decide (bF>now)=false:=by assumption
                      simpa using this
  have aD:jC now wide (if keep>bF then keep else bF) aZ=R:=by
   rw[<-hR,f1,f2,f4,f5,decide_eq_true f3,decide_eq_true f6,decide_eq_true f7];rfl
  clear hR hf hw Ti hbw;conv=>whnf
  refine ga (fun m tm hp=>∃(j:Nat)(L:Int),j+m=aZ.length/\tm 6=i64 L/\tm 62=i64 (j:Nat)/\ah hp [.row k2 (.box (View.mk (.mk (.mk aw n aA cells a b ao agg c al) l r ks) bF base aZ).enc),.row k1 (.box (bJ.mk bc aF aK now keep).enc)]/\(jC now wide L (aZ.drop j)=R)) (fun m tm hq bz hI=>?_) (aZ.length) ⟨0,(if keep>bF then keep else bF),by simp,(by first|rfl|kernel_rfl|simp),(by first|rfl|kernel_rfl|simp),S,(aD)⟩;obtain⟨j,L,hj,e6,e62,S2,aD⟩:=hI;have k2:=bz 2 (by kernel_rfl);conv at k2=>rhs;whnf
  rw[<-aP k2];have k5:=bz 5 (by kernel_rfl);conv at k5=>rhs;whnf
  rw[<-aP k5];have k60:=bz 60 (by kernel_rfl);conv at k60=>rhs;whnf
  rw[<-aP k60];have k61:=bz 61 (by kernel_rfl);conv at k61=>rhs;whnf
  rw[<-aP k61];rw[<-aP e6];rw[<-aP e62];clear bz k2 k5 k60 k61 e6 e62;clear S;have S:=S2;clear S2;conv=>whnf
  have fw:j<4611686018427387904:=by omega
  refine ae (fun h1=>?_) (fun h1=>?_)
  ·have bq:j<aZ.length:=by simpa using h1
   have cx:(aZ.map cC.enc)[((j:Nat):Int).toNat]?=some (cC.enc aZ[j]):=by rw[aq];simp[bq]
   rw[ar bq]at aD;simp only[jC]at aD;have h2:=qV _ (ay bq);have h3:=wH _ (ay bq) wide;generalize aZ[j]=x at cx aD h2 h3;obtain⟨t,out⟩:=x;simp only at aD h2 h3;conv=>whnf
   refine⟨_,cx,by omega,rfl,?_⟩
   iterate 18
    all_goals(try(conv=>whnf))
    all_goals(first|(intro ke cg er bn;replace S:=S.alloc er bn)|(refine .inl ⟨_,S.row 0 rfl,rfl,?_⟩)|(refine .inl ⟨_,S.row 1 rfl,rfl,?_⟩)|(refine .inl ⟨_,S.row 2 rfl,rfl,?_⟩)|(refine⟨_,rfl,rfl,rfl,.inl ⟨_,S.row 0 rfl,rfl,?_⟩⟩;(conv=>whnf);intro cg bn;replace S:=S.w0 bn)|(refine⟨_,rfl,rfl,rfl,.inl ⟨_,S.row 1 rfl,rfl,?_⟩⟩;(conv=>whnf);intro cg bn;replace S:=S.w1 bn)|(refine⟨_,rfl,rfl,rfl,.inl ⟨_,S.row 2 rfl,rfl,?_⟩⟩;(conv=>whnf);intro cg bn;replace S:=S.w2 bn)|(refine ae (fun hb=>?_) (fun hb=>?_))|(refine⟨_,h2 _,?_⟩)|(refine⟨_,h3 _,?_⟩)|skip)
   all_goals(try(conv=>whnf))
   all_goals first
    |exact bH (by rw[<-aD];clear cx h2 h3 qV wH S aD;first|(simp_all;done)|(simp_all;omega)|(simp_all;intros;omega))
    |exact⟨m-1,by omega,j+1,t,by omega,rfl,aQ j fw,S.drop 0,by rw[<-aD];clear cx h2 h3 qV wH S aD;first|(simp_all;done)|(simp_all;omega)|(simp_all;intros;omega)⟩
  ·have bq:j=aZ.length:=by
    have: ¬j<aZ.length:=by simpa using h1
    omega
   subst bq;rw[aL]at aD;conv=>whnf
   exact bH (by rw[<-aD];simp[jC])
def TA(s:bJ):af:=.func (.func 47) [] [.eY [s.enc] 0 0]
theorem Sq(hs:B8 pr)(v:View)(s:bJ)(ht:v.d.eX<=1048576)(hw:s.bc.length<=1048576):dm pr 47 [v.enc,.eY [s.enc] 0 0] (.bool (!gh s.bc s.now s.keep v)):=by
 have h:=Qt hs v s ht hw;obtain⟨⟨⟨aw,n,aA,cells,a,b,ao,agg,c,al⟩,l,r,ks⟩,bF,base,aZ⟩:=v;obtain⟨bc,aF,aK,now,keep⟩:=s;simp only at h⊢;generalize gh bc now keep _=ok at h⊢;refine ea hs.tobV rfl rfl ?_;have S:ah [] []:=ah.nil [];conv=>whnf
 intro k1 a1 dw dC;replace S:=S.alloc dw dC;conv=>whnf
 refine aI (S.row 0 rfl) ?_;conv=>whnf
 refine⟨_,h _,?_⟩;conv=>whnf
 refine ae (fun g1=>?_) (fun g1=>?_)
 ·conv=>whnf
  exact bH (by rw[g1];rfl)
 ·conv=>whnf
  exact bH (by rw[g1];rfl)
theorem Na(hs:B8 pr)(xs:List View)(s:bJ)(hl:xs.length<=cM)(ht: ∀v∈xs,v.d.eX<=1048576)(hw:s.bc.length<=1048576):
  dm pr 78 [.sl (xs.map View.enc),TA s] (i64 (na (fun v=>!gh s.bc s.now s.keep v) 0 xs)):=by
   generalize hR:na (fun v=>!gh s.bc s.now s.keep v) 0 xs=R;have hv: ∀v∈xs,_:=fun v hm=>Sq hs v s (ht v hm) hw;have El:=hl;unfold cM at El;refine ea hs.tobV rfl rfl ?_;have S:ah [] []:=ah.nil [];conv=>whnf
   refine ga (fun m tm hp=>∃(j:Nat),j+m=xs.length/\tm 8=i64 (j:Nat)/\(na (fun v=>!gh s.bc s.now s.keep v) (j:Nat) (xs.drop j)=R)) (fun m tm hq bz hI=>?_) (xs.length) ⟨0,by simp,(by first|rfl|kernel_rfl|simp),(hR)⟩;obtain⟨j,hj,e8,aD⟩:=hI;have k0:=bz 0 (by kernel_rfl);conv at k0=>rhs;whnf
   rw[<-aP k0];have k1:=bz 1 (by kernel_rfl);conv at k1=>rhs;whnf
   rw[<-aP k1];have k7:=bz 7 (by kernel_rfl);conv at k7=>rhs;whnf
   rw[<-aP k7];rw[<-aP e8];clear bz k0 k1 k7 e8;have S:ah hq []:=ah.nil hq;conv=>whnf
   refine ae (fun h1=>?_) (fun h1=>?_)
   ·have bq:j<xs.length:=by simpa using h1
    have cx:(xs.map View.enc)[((j:Nat):Int).toNat]?=some (View.enc xs[j]):=by rw[aq];simp[bq]
    have h2:=hv _ (ay bq);rw[ar bq]at aD;simp only[na]at aD;generalize xs[j]=v at cx h2 aD;generalize(!gh s.bc s.now s.keep v)=b at h2 aD;obtain⟨⟨⟨aw,n,aA,cells,a,b',ao,agg,c,al⟩,l,r,ks⟩,bF,base,aZ⟩:=v;conv=>whnf
    refine⟨_,cx,by omega,rfl,?_⟩;conv=>whnf
    refine⟨_,h2 _,?_⟩;conv=>whnf
    refine ae (fun h3=>?_) (fun h3=>?_)
    ·conv=>whnf
     exact dO (by rw[<-aD,h3];rfl)
    ·conv=>whnf
     exact⟨m-1,by omega,j+1,by omega,aQ j (by omega),by rw[<-aD,h3];rfl⟩
   ·have bq:j=xs.length:=by
     have: ¬j<xs.length:=by simpa using h1
     omega
    subst bq;rw[aL]at aD;conv=>whnf
    exact dO (by rw[<-aD];rfl)
theorem Nb(hs:B8 pr)(xs:List View)(s:bJ)(hl:xs.length<=cM)(ht: ∀v∈xs,v.d.eX<=1048576)(hw:s.bc.length<=1048576):
  dm pr 46 [.sl (xs.map View.enc),TA s] (.bool (xs.any fun v=>!gh s.bc s.now s.keep v)):=by
   have h:=Na hs xs s hl ht hw;rw[<-yw _ xs 0 (Int.le_refl 0)];refine ea hs.tobV rfl rfl ?_;have S:ah [] []:=ah.nil []
   iterate 3
    all_goals(try(conv=>whnf))
    all_goals(first|(intro ke cg er bn;replace S:=S.alloc er bn)|(refine .inl ⟨_,S.row 0 rfl,rfl,?_⟩)|(refine⟨_,rfl,rfl,rfl,.inl ⟨_,S.row 0 rfl,rfl,?_⟩⟩;(conv=>whnf);intro cg bn;replace S:=S.w0 bn)|(refine ae (fun hb=>?_) (fun hb=>?_))|(refine⟨_,h _,?_⟩)|skip)
   all_goals exact bH hb.symm
def lH:List (List Item)->List Int->Bool
 |t::ts,w::ws=>AX w t&&lH ts ws
 |_,_=>true
theorem JZ{ws:List Int}{ts:List (List Item)}{j:Nat}(h1:j<ws.length)(h2:j<ts.length):lH (ts.drop j) (ws.drop j)=(AX ws[j] ts[j]&&lH (ts.drop (j+1)) (ws.drop (j+1))):=by
 rw[ar h1,ar h2,lH]
def kR(s:bJ):Bool:=
 decide (s.aF.length<=3)&&(decide (s.bc.length=s.aF.length)&&(decide (s.aK.length<=3)&&(decide (0<=s.keep)&&(decide (s.keep<=s.now)&&(decide (s.now<=40)&&(lH s.aF s.bc&& !s.aK.any fun v=>!gh s.bc s.now s.keep v))))))
theorem J0(hs:B8 pr)(s:bJ)(ht:s.d.eX<=1048576):dm pr 15 [s.enc] (.bool (kR s)):=by
 have hp:=hs.tobV;rw[d5]at ht;have Vb:=Nb hs s.aK s (by simp[cM];omega) (fun v hv=>by have:=ed (f:=View.d) hv;omega) (by omega);obtain⟨bc,aF,aK,now,keep⟩:=s;simp only at ht Vb;have MV:=fun(z:List Item)(hz:z∈aF) w=>M9 hp z w (nE (by omega) z hz);clear ht;generalize hR:kR ⟨bc,aF,aK,now,keep⟩=R;simp only[kR]at hR;generalize(aK.any fun v=>!gh bc now keep v)=av at Vb hR;refine ea hp rfl rfl ?_;have S:ah [] []:=ah.nil [];conv=>whnf
 intro k1 a1 dw dC;replace S:=S.alloc dw dC;clear dw dC;have S0:ah a1 [.row k1 (.box (bJ.mk bc aF aK now keep).enc)]:=S;clear S;have S:=S0;clear S0
 iterate 20
  all_goals(try(conv=>whnf))
  all_goals(first|(intro ke cg er bn;replace S:=S.alloc er bn)|(refine .inl ⟨_,S.row 0 rfl,rfl,?_⟩)|(refine⟨_,rfl,rfl,rfl,.inl ⟨_,S.row 0 rfl,rfl,?_⟩⟩;(conv=>whnf);intro cg bn;replace S:=S.w0 bn)|(refine ae (fun hb=>?_) (fun hb=>?_))|skip)
 all_goals(try(conv=>whnf))
 all_goals first
  |exact bH (by rw[<-hR];clear hR MV Vb S;first|(simp_all;done)|(simp_all;omega)|(simp_all;intros;omega))
  |skip
 all_goals
  have hlen:bc.length=aF.length:=by clear hR MV Vb S;simp_all;omega
  have hw3:aF.length<=3:=by clear hR MV Vb S;simp_all;omega
  have aD:(lH aF bc&& !av)=R:=by rw[<-hR];clear hR MV Vb S;first|(simp_all;done)|(simp_all;omega)|(simp_all;intros;omega)
  clear hR;conv=>whnf
  refine ga (fun m tm hp=>∃(j:Nat),j+m=aF.length/\tm 44=i64 (j:Nat)/\ah hp [.row k1 (.box (bJ.mk bc aF aK now keep).enc)]/\((lH (aF.drop j) (bc.drop j)&& !av)=R)) (fun m tm hq bz hI=>?_) (aF.length) ⟨0,by simp,(by first|rfl|kernel_rfl|simp),S,(aD)⟩;obtain⟨j,hj,e44,S2,aD⟩:=hI;have k1:=bz 1 (by kernel_rfl);conv at k1=>rhs;whnf
  rw[<-aP k1];have k42:=bz 42 (by kernel_rfl);conv at k42=>rhs;whnf
  rw[<-aP k42];have k43:=bz 43 (by kernel_rfl);conv at k43=>rhs;whnf
  rw[<-aP k43];rw[<-aP e44];clear bz k1 k42 k43 e44;clear S;have S:=S2;clear S2;conv=>whnf
  refine ae (fun h1=>?_) (fun h1=>?_)
  ·have bq:j<aF.length:=by simpa using h1
   have cx:(aF.map aE.enc)[((j:Nat):Int).toNat]?=some (aE.enc aF[j]):=by rw[aq];simp[bq]
   have VD:j<bc.length:=by omega
   have QT:(bc.map i64)[((j:Nat):Int).toNat]?=some (i64 bc[j]):=by rw[aq];simp[VD]
   rw[JZ VD bq]at aD;have h2:=MV _ (ay bq) bc[j];generalize bc[j]=w at QT aD h2;generalize aF[j]=z at cx aD h2;generalize AX w z=tk at aD h2;conv=>whnf
   refine⟨_,cx,by omega,rfl,?_⟩;conv=>whnf
   refine aI (S.row 0 rfl) ?_;conv=>whnf
   refine⟨_,QT,by omega,rfl,?_⟩;conv=>whnf
   refine⟨_,h2 _,?_⟩;conv=>whnf
   refine ae (fun g1=>?_) (fun g1=>?_)
   ·rw[g1,aX]at aD;conv=>whnf
    exact⟨m-1,by omega,j+1,by omega,aQ j (by omega),S,aD⟩
   ·conv=>whnf
    exact bH (by rw[<-aD,g1];rfl)
  ·have bq:j=aF.length:=by
    have: ¬j<aF.length:=by simpa using h1
    omega
   subst bq;rw[aL]at aD;have aD:(!av)=R:=by rw[<-aD];simp[lH]
   conv=>whnf
   refine aI (S.row 0 rfl) ?_;conv=>whnf
   refine⟨_,Vb.here (jI rfl (CA (S.row 0 rfl) rfl)) rfl rfl,?_⟩;conv=>whnf
   refine ae (fun g1=>?_) (fun g1=>?_)
   ·conv=>whnf
    exact bH (by rw[<-aD,g1];rfl)
   ·conv=>whnf
    exact bH (by rw[<-aD,g1];rfl)
theorem D4(cA:Int): ∀(ps:List cC)(z:List Item),(∀p∈ps,c7 p.out=true)->(∀x∈z,x.row.length<=cM)->(HG cA z ps).length<=z.length+100*ps.length/\ ∀x∈HG cA z ps,x.row.length<=cM
 | [],z,_,hz=>⟨by simp[HG],hz⟩
 |p::ps,z,hp,hz=>by
  have h1:=(cE (hp p (by simp))).1
  have h2:(dN z p.out).length<=z.length+p.out.length/\ ∀x∈dN z p.out,x.row.length<=cM:=⟨tI _ _ _ (aB _),fun x hx=>by
   obtain⟨y,hy,e⟩:=zO _ z p.out (aB _) x hx;rw[e];rcases hy with hy|hy
   ·exact hz y hy
   ·exact(cF (hp p (by simp))).2 y hy⟩
  simp only[HG,aJ];split
  ·obtain⟨g1,g2⟩:=D4 cA ps _ (fun q hq=>hp q (by simp[hq])) h2.2;exact⟨by omega,g2⟩
  ·obtain⟨g1,g2⟩:=D4 cA ps _ (fun q hq=>hp q (by simp[hq])) hz;exact⟨by omega,g2⟩
theorem x8{now wide:Int}: ∀{ps:List cC}{q:Int},jC now wide q ps=true-> ∀p∈ps,c7 p.out=true
 | [],_,_,p,hp=>by simp at hp
 |x::xs,q,h,p,hp=>by
  simp only[jC,aj]at h;rcases aW.1 hp with rfl|hp
  ·exact h.1.2.2.1
  ·exact x8 h.2 p hp
theorem Nc{ws:List Int}{now keep:Int}{v:View}(h:gh ws now keep v=true):c7 v.base=true/\(∀p∈v.aZ,c7 p.out=true)/\v.aZ.length<=40:=by
 simp only[gh,AY,aj,decide_eq_true_iff]at h;exact⟨h.2.2.2.2.1,x8 h.2.2.2.2.2.2.2,h.2.2.2.2.2.2.1⟩
theorem J1{s:bJ}(h:kR s=true): ∀v∈s.aK,gh s.bc s.now s.keep v=true:=by
 simp only[kR,aj,Bool.not_eq_true']at h;intro v hv;have:=List.any_eq_false.1 h.2.2.2.2.2.2.2 v hv;simpa using this
def CB(s:bJ)(view cA:Int):List Item×Int:=
 if !kR s then([],6)
 else if decide (view<0)||(decide (view>=s.aK.length)||decide (cA>s.now))then([],1)
 else match s.aK[view.toNat]? with
  |none=>([],1)
  |some v=>if decide (cA<s.keep)||decide (cA<v.bF)then([],4)
   else if(uO (HG cA v.base v.aZ)).2 then((uO (HG cA v.base v.aZ)).1,0)else([],5)
theorem D6(hs:B8 pr)(s:bJ)(view cA:Int)(ht:s.d.eX<=1048576):lu pr 6 [s.enc,i64 view,i64 cA] [aE.d (CB s view cA).1,.i (CB s view cA).2]:=by
 have hp:=hs.tobV;have dt:=J0 hs s ht;have M0:=@J1 s;generalize hR:CB s view cA=R;obtain⟨R1,R2⟩:=R;simp only;unfold CB at hR;generalize kR s=ok at dt M0 hR;obtain⟨bc,aF,aK,now,keep⟩:=s;simp only at hR M0;have fin: ∀(h:aC)(n:Int),bZ h [aE.d [],.i n] [.nil,i64 n] ([]++[]):=fun h n=>eW (jO 2) (nk n);refine Db hp rfl ?_;have S:ah [] []:=ah.nil [];conv=>whnf
 intro k1 a1 dw dC;replace S:=S.alloc dw dC;clear dw dC;have S0:ah a1 [.row k1 (.box (bJ.mk bc aF aK now keep).enc)]:=S;clear S;have S:=S0;clear S0;conv=>whnf
 refine aI (S.row 0 rfl) ?_;conv=>whnf
 refine⟨_,dt _,?_⟩;conv=>whnf
 refine ae (fun g0=>?_) (fun g0=>?_)
 ·subst g0;simp only[Bool.not_true,Bool.false_eq_true,if_false]at hR;conv=>whnf
  refine ae (fun g1=>?_) (fun g1=>?_)
  ·have e:(([]:List Item),(1:Int))=(R1,R2):=by rw[<-hR];rw[g1];rfl
   cases e
   conv=>whnf
   exact⟨_,rfl,_,_,_,rfl,fin _ _,by simp⟩
  ·rw[g1,Bool.false_or]at hR;conv=>whnf
   refine aI (S.row 0 rfl) ?_;conv=>whnf
   refine ae (fun g2=>?_) (fun g2=>?_)
   ·have sM:decide (view>=aK.length)=true:=by simpa using g2
    have e:(([]:List Item),(1:Int))=(R1,R2):=by rw[<-hR];rw[sM];rfl
    cases e
    conv=>whnf
    exact⟨_,rfl,_,_,_,rfl,fin _ _,by simp⟩
   ·have sM:decide (view>=aK.length)=false:=by simpa using g2
    rw[sM,Bool.false_or]at hR;conv=>whnf
    refine aI (S.row 0 rfl) ?_;conv=>whnf
    refine ae (fun g3=>?_) (fun g3=>?_)
    ·have e:(([]:List Item),(1:Int))=(R1,R2):=by rw[<-hR];rw[g3];rfl
     cases e
     conv=>whnf
     exact⟨_,rfl,_,_,_,rfl,fin _ _,by simp⟩
    ·rw[g3]at hR;simp only[Bool.false_eq_true,if_false]at hR;have tV:0<=view:=by simpa using g1
     have wh:view.toNat<aK.length:=by simp at g2;omega
     have M0:=M0 rfl _ (ay wh);have cx:(aK.map View.enc)[view.toNat]?=some (View.enc aK[view.toNat]):=by simp[wh]
     rw[au wh]at hR;simp only at hR;obtain⟨z1,z2,z3⟩:=Nc M0;have h4:=Pn hp aK[view.toNat] cA z1 z2 (by omega);have h6:=D4 cA aK[view.toNat].aZ aK[view.toNat].base z2 (cF z1).2;have h7:=Un hs (HG cA aK[view.toNat].base aK[view.toNat].aZ) ⟨by have:=h6.1;have:=(cE z1).1;simp[cM];omega,h6.2⟩;clear h6 M0 z1 z2 z3;generalize aK[view.toNat]=v at cx hR h4 h7;generalize hz:HG cA v.base v.aZ=z at hR h4 h7;generalize uO z=tz at hR h7;obtain⟨z',ok⟩:=tz;simp only at hR h7;obtain⟨⟨⟨aw,n,aA,cells,a,b',ao,agg,c,al⟩,l,r,ks⟩,bF,base,aZ⟩:=v;simp only at hR
     have main:decide (cA<keep)=false->decide (cA<bF)=false->(if ok=true then(z',(0:Int))else([],5))=(R1,R2):=fun e1 e2=>by
      rw[<-hR,e1,e2];rfl
     conv=>whnf
     refine aI (S.row 0 rfl) ?_;conv=>whnf
     refine ae (fun g4=>?_) (fun g4=>?_)
     ·have e:(([]:List Item),(4:Int))=(R1,R2):=by rw[<-hR];rw[g4];rfl
      cases e
      conv=>whnf
      exact⟨_,rfl,_,_,_,rfl,fin _ _,by simp⟩
     ·conv=>whnf
      refine aI (S.row 0 rfl) ?_;conv=>whnf
      refine⟨_,cx,tV,rfl,?_⟩;conv=>whnf
      refine ae (fun g5=>?_) (fun g5=>?_)
      ·have g5':decide (cA<bF)=true:=g5;have e:(([]:List Item),(4:Int))=(R1,R2):=by rw[<-hR];rw[g4,g5'];rfl
       cases e
       conv=>whnf
       exact⟨_,rfl,_,_,_,rfl,fin _ _,by simp⟩
      ·have hm:=main g4 g5;clear main hR;conv=>whnf
       refine aI (S.row 0 rfl) ?_;conv=>whnf
       refine⟨_,cx,tV,rfl,?_⟩;conv=>whnf
       refine⟨_,h4 _,?_⟩;conv=>whnf
       refine gA S h7 rfl rfl fun vs q1 F1 S1=>?_;obtain⟨v1,G1,rfl,S2⟩:=ah.jZ S1
       cases ok with
       |true=>
        cases hm
        conv=>whnf
        exact⟨_,rfl,_,_,_,rfl,eW (S2.get 0 rfl) (nk 0),by rw[aU];exact(S2.get' 0 _ rfl).2⟩
       |false=>
        cases hm
        conv=>whnf
        exact⟨_,rfl,_,_,_,rfl,fin _ _,by simp⟩
 ·subst g0;simp only[Bool.not_false,if_true,Prod.mk.injEq]at hR;obtain⟨rfl,rfl⟩:=hR;conv=>whnf
  exact⟨_,rfl,_,_,_,rfl,fin _ _,by simp⟩
end Go.Proofs.YtfepbikckfehlaaGreat

/- The operations that leave the memory alone, all in one. -/
import Derived.Test.YtfepbikckfehlaaGreatGH2
import Derived.MapKept
set_option linter.unusedVariables false
set_option linter.unusedSimpArgs false
set_option maxHeartbeats 4000000
namespace Go.Am
open Go MapKept
section
variable{P:Program}{E:Env}{w:World}
theorem de.map'{id:Nat}{v:Value}(h:de E w (.map id) v): ∃b,v= .map (some b)/\(E.m id=some (.JH b)∨E.m id=some .dead):=by
 cases h with
 |fJ h=>cases h
 |map _ b hm=>exact⟨b,rfl,.inl hm⟩
 |Nh _ b hm=>exact⟨b,rfl,.inr hm⟩
theorem de.Uv{v:Value}(h:de E w .qY v):v= .map none:=by cases h with|fJ h=>cases h;rfl
theorem lz{t e:TypeId}{sz:Nat}(h:my P t=some (e,sz)): ∃i,P.underlying t=some (.slice e)/\P.info? e=some i/\i.size=sz/\i.bytes<=4096/\sz<=4096/\ ∃z,i.zero=some z/\z.cells.size=sz:=by
 unfold my at h;split at h
 ·rename_i e' hu;split at h
  ·rename_i i hi;split at h
   ·rename_i hc;cases h
    obtain⟨h1,h2,h3⟩:=hc;simp only[nM]at h3;exact⟨i,hu,hi,rfl,h1,h2,h3⟩
   ·cases h
  ·cases h
 ·cases h
theorem xB{t e:TypeId}{n sz:Nat}(h:Nc P t=some (n,e,sz)): ∃i,P.underlying t=some (.array n e)/\P.info? e=some i/\i.size=sz:=by
 unfold Nc at h;split at h
 ·rename_i n' e' hu;split at h
  ·rename_i i hi;cases h
   exact⟨i,hu,hi,rfl⟩
  ·cases h
 ·cases h
theorem pV{e:TypeId}{i:TypeInfo}(hi:P.info? e=some i)(w:World):(sizeOf e).run P w= .ok i.size w:=by simp[sizeOf,typeInfo,hi]
theorem rl(b:Bool)(len cap:Nat)(lo hi:Option Int)(L6 L7:Option Value)(hl: ∀i,lo=some i-> ∃k,L6=some (.int k i))(L8:lo=none->L6=none)
  (hh: ∀i,hi=some i-> ∃k,L7=some (.int k i)) (Xe:hi=none->L7=none) (h0:0<=lo.getD 0) (h1:lo.getD 0<=hi.getD len) (h2:hi.getD len<=cap):
  (Instr.sliceBounds b len cap L6 L7 none).run P w= .ok ((lo.getD 0).toNat,(hi.getD len).toNat,cap) w:=by
   have e1:((if b=true then BoundsCode.sliceAcap else .sliceAlen):BoundsCode)=if b=true then BoundsCode.sliceAcap else .sliceAlen:=rfl
   cases hi with
   |none=>
    have:=Xe rfl;subst this
    cases lo with
    |none=>
     have:=L8 rfl;subst this
     simp[Instr.sliceBounds]
    |some l=>
     obtain⟨k,rfl⟩:=hl l rfl;simp at h0 h1
     simp[Instr.sliceBounds,run_sliceBound w k l len _ h0 h1]
   |some u=>
    obtain⟨k',rfl⟩:=hh u rfl;simp at h1 h2
    cases lo with
    |none=>
     have:=L8 rfl;subst this;simp at h1
     simp[Instr.sliceBounds,run_sliceBound w k' u cap _ h1 h2]
    |some l=>
     obtain⟨k,rfl⟩:=hl l rfl;simp at h0 h1;have hu:l<=(u.toNat:Int):=by omega
     simp[Instr.sliceBounds,run_sliceBound w k' u cap _ (by omega) h2,run_sliceBound w k l u.toNat _ h0 hu]
theorem ov{t e:TypeId}{i:TypeInfo}(ht:P.underlying t=some (.slice e))(hi:P.info? e=some i){a:Option Addr}{len cap l u:Nat}{L6 L7:Option Value}
  (hb:(Instr.sliceBounds true len cap L6 L7 none).run P w= .ok (l,u,cap) w):
  (Instr.sliceAt t (.slice a len cap) L6 L7 none).run P w= .ok (.slice (if cap=l then a else a.map (·.add (l*i.size))) (u-l) (cap-l)) w:=by
   unfold Instr.sliceAt;rw[aa7,run_underlying ht,aaE];simp only[Instr.slice,aa7,run_underlying ht,aaE,hb,pV hi,Sem.run_pure]
theorem Vt{xs:List af}{a:Option Addr}{cap sz l u:Nat}(h:fD E.S w (.sl xs) (.slice a xs.length cap))(hlu:l<=u)(hu:u<=xs.length)(jP:xs.all (fun y=>y.cells.length==sz)=true):
  fD E.S w (.sl ((xs.drop l).take (u-l))) (.slice (if cap=l then a else a.map (·.add (l*sz))) (u-l) (cap-l)):=by
   cases h with
   |sl _ _ _ s b o vs ha gM hs hc hr=>
    have hlen:((xs.drop l).take (u-l)).length=u-l:=by simp;omega
    by_cases he:u-l=0
    ·have h0:(xs.drop l).take (u-l)=[]:=List.eq_nil_of_length_eq_zero (by omega);rw[h0];have:=fD.sl (S:=E.S) (w:=w) [] (if cap=l then a else a.map (·.add (l*sz))) (cap-l) 0 0 0 (fun _ _=>undef) (fun h=>absurd rfl h) (Nat.zero_le _) (fun x hx=>by simp at hx) (fun i j x c hx=>by simp at hx) (fun i j x c hx=>by simp at hx);rw[he];exact this
    ·have Xf:l<xs.length:=by omega
     obtain⟨x0,SM⟩:=bP Xf;have Xg:x0∈xs:=aaq SM
     have hs0:s=sz:=by
      have h1:=hs x0 Xg;have h2:=aaj.1 jP x0 Xg;simp at h2;omega
     subst hs0;have mD:xs≠[]:=List.ne_nil_of_mem Xg;have aae:cap≠l:=by omega
     rw[if_neg aae,ha mD]
     have key:=fD.sl (S:=E.S) (w:=w) ((xs.drop l).take (u-l)) (some ⟨b,o+l*s,none⟩) (cap-l) s b (o+l*s) (fun i j=>vs (l+i) j) (fun _=>rfl) (by omega)
      (fun x hx=>hs x (List.mem_of_mem_drop (abz hx)))
      (fun i j x c hx Db=>by
       have hi:i<u-l:=by have:=(aag.1 hx).1;omega
       rw[aby,if_pos hi,List.getElem?_drop]at hx;obtain⟨h1,h2⟩:=hc _ j x c hx Db;refine⟨h1,?_⟩;rw[<-h2,Nat.add_mul,abI,abI])
      (fun i j x c hx Db=>by
       have hi:i<u-l:=by have:=(aag.1 hx).1;omega
       rw[aby,if_pos hi,List.getElem?_drop]at hx;exact hr _ j x c hx Db)
     rw[hlen]at key;rw[aaL,Addr.add_mid];exact key
theorem GA{h:aG}(s:eG E h w){t:TypeId}{x r:af}{vx:Value}{lo hi:Option Int}{L6 L7:Option Value}(hh:nA P t x lo hi none h=some r)(hx:de E w x vx)
  (hl: ∀i,lo=some i-> ∃k,L6=some (.int k i)) (L8:lo=none->L6=none) (L9: ∀i,hi=some i-> ∃k,L7=some (.int k i)) (Xe:hi=none->L7=none):
  lL P E w (Instr.sliceAt t vx L6 L7 none) r:=by
   unfold nA at hh;split at hh
   ·rename_i q _;split at hh
    ·rename_i hu;dsimp only at hh;split at hh
     ·rename_i hc;cases hh
      obtain rfl:=hx.str;obtain⟨h0,h1,h2⟩:=hc;refine lL.str ?_;unfold Instr.sliceAt;rw[aa7,run_underlying hu,aaE];have hb:=rl (P:=P) (w:=w) false q.size q.size lo hi L6 L7 hl L8 L9 Xe h0 h1 h2;simp only[Instr.slice,aa7,run_underlying hu,aaE];simp[hb]
     ·cases hh
    ·cases hh
   ·rename_i xs _;split at hh
    ·rename_i e sz Aw;obtain⟨i,hu,qz,rfl,_,_⟩:=lz Aw;dsimp only at hh;split at hh
     ·rename_i hc;cases hh
      obtain⟨h0,h1,h2,h3⟩:=hc
      cases hx with
      |fJ hc=>
       cases hc with
       |sl _ a cap s b o vs ha gM hs hc hr=>
        have hb:=rl (P:=P) (w:=w) true xs.length cap lo hi L6 L7 hl L8 L9 Xe h0 h1 (by omega);refine⟨_,ov hu qz hb,.fJ (Vt (sz:=i.size) (.sl xs a cap s b o vs ha gM hs hc hr) (by omega) (by omega) (by simpa using h3))⟩
     ·cases hh
    ·cases hh
   ·rename_i id st len _;split at hh
    ·rename_i e sz jz es Aw ho;obtain⟨i,hu,qz,rfl,_,_⟩:=lz Aw;dsimp only at hh;split at hh
     ·rename_i hc;cases hh
      obtain⟨h0,h1,h2,h3⟩:=hc;subst h3
      cases hx with
      |fJ hc=>cases hc
      |sE _ _ _ a cap hm gM=>
       have:=s.obj id _ _ ho hm
       simp[eO]at this
      |own _ _ _ a cap b jB sz hm gM hp=>
       have hk:=s.obj id _ _ ho hm;simp only[eO]at hk;obtain⟨rfl,_⟩:=hk;have hb:=rl (P:=P) (w:=w) true len cap lo hi L6 L7 hl L8 L9 Xe h0 h1 (by omega);refine⟨_,ov hu qz hb,?_⟩;refine .own id _ _ _ _ b jB i.size hm (by omega) ?_;rcases hp with⟨GB,Jv⟩|⟨rfl,Jv⟩
       ·left;omega
       ·by_cases jM:cap=(lo.getD 0).toNat
        ·left;omega
        ·right
         rw[if_neg jM];refine⟨by simp[Addr.add,Nat.add_mul],?_⟩;have:st+(lo.getD 0).toNat+(cap-(lo.getD 0).toNat)=st+cap:=by omega
         rw[this];exact Jv
     ·cases hh
    ·cases hh
   ·split at hh
    ·rename_i q Aw;obtain⟨e,sz⟩:=q;obtain⟨i,hu,qz,rfl,_,_⟩:=lz Aw;split at hh
     ·rename_i hc;cases hh
      obtain⟨h0,h1⟩:=hc
      cases hx with
      |fJ hc=>
       cases hc with
       |nil a=>
        have hb:=rl (P:=P) (w:=w) true 0 0 lo hi L6 L7 hl L8 L9 Xe (by omega) (by simp;omega) (by simp;omega);have hr:=ov hu qz (a:=a) hb;rw[h0]at hr;refine⟨_,hr,.fJ ?_⟩;have e1:(hi.getD ((0:Nat):Int)).toNat-(0:Int).toNat=0:=by simp[h1]
        rw[e1];exact .nil _
     ·cases hh
    ·cases hh
   ·cases hh
theorem JN{h:aG}(s:eG E h w){t:TypeId}{x r:af}{vx:Value}{i:Int}{k:IntKind}(hh:vH P t x i h=some r)(hx:de E w x vx):lL P E w (Instr.indexAt t vx (.int k i)) r:=by
 have XL: ∀{e:TypeId}{inf:TypeInfo}{a:Addr}{len cap:Nat},P.underlying t=some (.slice e)->P.info? e=some inf->0<=i->i<len->
   (Instr.indexAt t (.slice (some a) len cap) (.int k i)).run P w= .ok (.pointer (some (a.add (i.toNat*inf.size)))) w:=by
    intro e inf a len cap hu hi h0 h1;simp[Instr.indexAt,run_underlying hu,asIntOf,h0,h1,pV hi]
 have Vu: ∀{e:TypeId}{n:Nat}{inf:TypeInfo}{a:Addr},P.underlying t=some (.array n e)->P.info? e=some inf->0<=i->i<n->
   (Instr.indexAt t (.pointer (some a)) (.int k i)).run P w= .ok (.pointer (some (a.add (i.toNat*inf.size)))) w:=by
    intro e n inf a hu hi h0 h1;simp[Instr.indexAt,run_underlying hu,asIntOf,Instr.sureAddr,h0,h1,pV hi]
 unfold vH at hh;split at hh
 ·rename_i id st len;split at hh
  ·rename_i e sz jz es Aw ho;obtain⟨inf,hu,qz,rfl,_,_⟩:=lz Aw;split at hh
   ·rename_i hc;cases hh
    obtain⟨h0,h1,rfl⟩:=hc
    cases hx with
    |fJ hc=>cases hc
    |sE _ _ _ a cap hm gM=>
     have:=s.obj id _ _ ho hm
     simp[eO]at this
    |own _ _ _ a cap b jB sz hm gM hp=>
     have hk:=s.obj id _ _ ho hm;simp only[eO]at hk;obtain⟨rfl,_⟩:=hk;rcases hp with⟨GB,Jv⟩|⟨rfl,Jv⟩
     ·omega
     ·refine⟨_,XL hu qz h0 h1,?_⟩;have e1:(Addr.add ⟨b,st*inf.size,none⟩ (i.toNat*inf.size))=⟨b,(st+i.toNat)*inf.size+0,none⟩:=by simp[Addr.add,Nat.add_mul]
      rw[e1];exact .ptr id _ 0 b jB inf.size hm
   ·cases hh
  ·cases hh
 ·rename_i xs;split at hh
  ·rename_i e sz x0 Aw SM;obtain⟨inf,hu,qz,rfl,_,_⟩:=lz Aw;split at hh
   ·rename_i hc;cases hh
    obtain⟨h0,h1⟩:=hc
    cases hx with
    |fJ hc=>
     cases hc with
     |sl _ a cap s b o vs ha gM hs hc hr=>
      have fK:i.toNat<xs.length:=(aag.1 SM).1;have Xg:=aaq SM;have jP:s=inf.size:=by have:=hs x0 Xg;omega
      subst jP;rw[ha (List.ne_nil_of_mem Xg)];refine⟨_,XL hu qz h0 (by omega),?_⟩;have e1:(Addr.add ⟨b,o,none⟩ (i.toNat*inf.size))=⟨b,o+i.toNat*inf.size+(0*inf.size+0),none⟩:=by simp[Addr.add]
      rw[e1];refine .fJ (.fQ [x0] 0 0 inf.size b (o+i.toNat*inf.size) (fun _ j=>vs i.toNat j) (fun x hx=>by simp at hx;subst hx;exact h1) (fun n j x c hx Db=>?_) (fun n j x c hx Db=>?_))
      ·cases n with
       |zero=>
        simp at hx;subst hx;obtain⟨g1,g2⟩:=hc i.toNat j x0 c SM Db
        exact⟨g1,by rw[<-g2];simp[abI]⟩
       |succ n=>simp at hx
      ·cases n with
       |zero=>simp at hx;subst hx;exact hr i.toNat j x0 c SM Db
       |succ n=>simp at hx
   ·cases hh
  ·cases hh
 ·rename_i id j off;split at hh
  ·rename_i n e sz ox;obtain⟨inf,hu,qz,rfl⟩:=xB ox;split at hh
   ·rename_i hc;cases hh
    cases hx with
    |fJ hc=>cases hc
    |ptr _ _ _ b jB sz hm=>
     refine⟨_,Vu hu qz hc.1 hc.2,?_⟩;rw[Addr.add_mid,abI]
     exact .ptr id j _ b jB sz hm
    |xy _ _ _ ad hm=>exact⟨_,Vu hu qz hc.1 hc.2,.xy id j _ _ hm⟩
   ·cases hh
  ·cases hh
 ·rename_i xs j off;split at hh
  ·rename_i n e sz ox;obtain⟨inf,hu,qz,rfl⟩:=xB ox;split at hh
   ·rename_i Db;cases hh
    cases hx with
    |fJ hc=>
     cases hc with
     |fQ _ _ _ s b o vs hs hc hr=>
      refine⟨_,Vu hu qz Db.1 Db.2,?_⟩;rw[Addr.add_mid,abI,abI];exact .fJ (.fQ xs j _ s b o vs hs hc hr)
   ·cases hh
  ·cases hh
 ·cases hh
theorem GC{t:TypeId}{x r:af}{vx:Value}{i:Int}{k:IntKind}(hh:Ag P t x i=some r)(hx:de E w x vx):lL P E w (Instr.index t vx (.int k i)) r:=by
 unfold Ag at hh;split at hh
 ·rename_i q;obtain rfl:=hx.str;split at hh
  ·rename_i hu;split at hh
   ·rename_i h0;split at hh
    ·rename_i b hb;cases hh
     refine lL.int ?_;simp[Instr.index,asIntOf,run_underlying hu,h0,hb]
    ·cases hh
   ·cases hh
  ·cases hh
 ·rename_i cs;obtain⟨vs,rfl,hl,hr⟩:=hx.dE;split at hh
  ·rename_i n e sz ox;obtain⟨inf,hu,qz,rfl⟩:=xB ox;split at hh
   ·rename_i hc;obtain⟨v,hv,Ma⟩:=As hl hr hh;refine⟨v,?_,Ma⟩;simp[Instr.index,asIntOf,run_underlying hu,hc.1,hc.2,pV qz,hv]
   ·cases hh
  ·cases hh
 ·cases hh
theorem GD{kt:TypeId}{d:TypeDesc}(hd:P.underlying kt=some d){a b:af}{va vb:Value}{r:Bool}(h:Gm P kt a b=some r)(ha:de E w a va)(hb:de E w b vb):Instr.sameNow d va vb=some r:=by
 unfold Gm at h;rw[hd]at h;split at h
 ·rename_i q k x k' y hq;cases hq
  obtain rfl:=ha.int;obtain rfl:=hb.int;exact h
 ·rename_i x y hq;cases hq
  obtain rfl:=ha.str;obtain rfl:=hb.str;exact h
 ·cases h
theorem yF{kt:TypeId}{d:TypeDesc}(hd:P.underlying kt=some d){a:af}{va:Value}(h:isKey P kt a=true)(ha:de E w a va):IsKey d va:=by
 unfold isKey at h;rw[hd]at h;split at h
 ·rename_i q k n hq;cases hq
  obtain rfl:=ha.int;simpa[IsKey]using h
 ·rename_i q hq;cases hq
  obtain rfl:=ha.str;trivial
 ·cases h
theorem Ax{kt:TypeId}{d:TypeDesc}(hd:P.underlying kt=some d){k:af}{vk:Value}(hk:de E w k vk): ∀(ks:List af)(es:List MapEntry)(n:Nat)(r:Option Nat),pU P kt k ks n=some r->ks.length=es.length->
  (∀(i:Nat)(k:af)(e:MapEntry),ks[i]?=some k->es[i]?=some e->de E w k e.key)->
  (r=none->Instr.findNow d vk es n=some none)/\ ∀i,r=some i->n<=i/\ ∃e,es[i-n]?=some e/\Instr.findNow d vk es n=some (some (i,e.val))/\Instr.sameNow d vk e.key=some true:=by
   intro ks
   induction ks with
   |nil=>
    intro es n r h hl _;simp only[pU]at h;cases h
    cases es with
    |nil=>exact⟨fun _=>rfl,fun i hi=>(by cases hi)⟩
    |cons e es=>simp at hl
   |cons x xs ih=>
    intro es n r h hl hr
    cases es with
    |nil=>simp at hl
    |cons e es=>
     simp only[pU]at h;have he:de E w x e.key:=hr 0 x e rfl rfl
     cases hq:Gm P kt k x with
     |none=>simp[hq]at h
     |some b=>
      have hs:=GD hd hq hk he
      cases b with
      |true=>
       simp only[hq]at h;cases h
       refine⟨fun h=>(by cases h),fun i hi=>?_⟩;cases hi
       exact⟨aah _,e,by simp,by simp[Instr.findNow,hs],hs⟩
      |false=>
       simp only[hq]at h;obtain⟨h1,h2⟩:=ih es (n+1) r h (by simpa using hl) (fun i k e hk he=>hr (i+1) k e (by simpa using hk) (by simpa using he));refine⟨fun h=>by simp[Instr.findNow,hs,h1 h],fun i hi=>?_⟩;obtain⟨g1,e',g2,g3,g4⟩:=h2 i hi;refine⟨by omega,e',?_,by simp[Instr.findNow,hs,g3],g4⟩;have:i-n=(i-(n+1))+1:=by omega
       rw[this];simpa using g2
theorem Dg{t kt et:TypeId}(h:Pt P t=some (kt,et)):P.underlying t=some (.map kt et):=by
 unfold Pt at h;split at h
 ·rename_i k e hu;cases h;exact hu
 ·cases h
theorem Ay{kt:TypeId}{k:af}(h:isKey P kt k=true): ∃d,P.underlying kt=some d:=by
 unfold isKey at h;split at h
 ·rename_i q _ _ hu;exact⟨_,hu⟩
 ·rename_i q hu;exact⟨_,hu⟩
 ·cases h
theorem Nm{t:TypeId}{z:af}(h:kK P t=some z): ∃v,(zeroValue t).run P w= .ok v w/\ ∀(S:Nat->Prop)(w':World),fD S w' z v:=by
 unfold kK at h;simp only[abC]at h;obtain⟨v,⟨i,hi,hz⟩,hv⟩:=h;exact⟨v,by simp[zeroValue,typeInfo,hi,hz],fun S w'=>zO hv⟩
theorem JO{h:aG}(s:eG E h w){t:TypeId}{m k r:af}{ok:Bool}{vm vk:Value}(hh:yB P t m k ok h=some r)(hm:de E w m vm)(hk:de E w k vk):lL P E w (Instr.lookup t vm vk ok) r:=by
 unfold yB at hh;split at hh
 ·rename_i kt et SO;have hu:=Dg SO;split at hh
  ·rename_i Nn;obtain⟨d,hd⟩:=Ay Nn;have hK:=yF hd Nn hk
   have fin: ∀(ks vs:List af)(es:Array MapEntry),ks.length=es.size->vs.length=es.size->
     (∀(i:Nat)(k:af)(e:MapEntry),ks[i]?=some k->es[i]?=some e->de E w k e.key)->
     (∀(i:Nat)(v:af)(e:MapEntry),vs[i]?=some v->es[i]?=some e->de E w v e.val)->
     (match pU P kt k ks 0 with
      |some (some i)=>match vs[i]? with
       |some v=>some (if ok then af.eT [v,.bool true]else v)
       |none=>none
      |some none=>match kK P et with
       |some z=>some (if ok then af.eT [z,.bool false]else z)
       |none=>none
      |none=>none)=some r->
     ∃v b u,(Instr.findKey kt vk es.toList).run P w= .ok v w/\(∀i x,v=some (i,x)->u=x/\b=true)/\(v=none->(zeroValue et).run P w= .ok u w/\b=false)/\de E w r (if ok then .tuple #[u,.bool b]else u):=by
      intro ks vs es hl hlv hkr hvr ir
      have mk: ∀{a:af}{u:Value}{b:Bool},de E w a u->de E w (if ok then af.eT [a,.bool b]else a) (if ok then .tuple #[u,.bool b]else u):=by
       intro a u b ha
       cases ok with
       |false=>exact ha
       |true=>
        refine .eT _ _ rfl fun i c v hc hv=>?_
        match i with
        |0=>simp at hc hv;subst hc hv;exact ha
        |1=>simp at hc hv;subst hc hv;exact .fJ (.bool b)
        |i+2=>simp at hc
      cases hf:pU P kt k ks 0 with
      |none=>simp[hf]at ir
      |some q=>
       obtain⟨h1,h2⟩:=Ax hd hk ks es.toList 0 q hf (by simpa using hl) (fun i k e hk he=>hkr i k e hk (by simpa using he))
       cases q with
       |none=>
        simp only[hf]at ir
        cases hz:kK P et with
        |none=>simp[hz]at ir
        |some z=>
         simp only[hz]at ir;cases ir
         obtain⟨u,Xd,xA⟩:=Nm (w:=w) hz
         exact⟨none,false,u,run_findKey hd (h1 rfl),fun i x h=>(by cases h),fun _=>⟨Xd,rfl⟩,mk (.fJ (xA _ _))⟩
       |some i=>
        simp only[hf]at ir
        cases hv:vs[i]? with
        |none=>simp[hv]at ir
        |some a=>
         simp only[hv]at ir;cases ir
         obtain⟨_,e,he,Jw,_⟩:=h2 i rfl;simp at he;exact⟨some (i,e.val),true,e.val,run_findKey hd Jw,fun j x h=>(by cases h;exact⟨rfl,rfl⟩),fun h=>(by cases h),mk (hvr i a e hv (by simpa using he))⟩
   have wrap: ∀(es:Array MapEntry)(v:Option (Nat×Value))(b:Bool)(u:Value),
     (vm= .map none/\es= #[])∨(∃r clock,vm= .map (some r)/\w.heap[r]?=some (.map es clock))->
     (Instr.findKey kt vk es.toList).run P w= .ok v w->(∀i x,v=some (i,x)->u=x/\b=true)->(v=none->(zeroValue et).run P w= .ok u w/\b=false)->
     (Instr.lookup t vm vk ok).run P w= .ok (if ok then .tuple #[u,.bool b]else u) w:=by
      intro es v b u h1 h2 h3 h4
      have Vv:(do
        Instr.checkKey es.isEmpty 10000 kt vk
        let(v,o)<-match<-Instr.findKey kt vk es.toList with
         |some (_,v)=>pure (v,true)
         |none=>pure (<-zeroValue et,false)
        pure (if ok then .tuple #[v,.bool o]else v):Sem Value).run P w= .ok (if ok then .tuple #[u,.bool b]else u) w:=by
         simp only[aa7,aaE,MapKept.run_checkKey hd hK,h2]
         cases v with
         |none=>
          obtain⟨h5,rfl⟩:=h4 rfl
          simp[h5]
         |some q=>
          obtain⟨i,x⟩:=q;obtain⟨rfl,rfl⟩:=h3 i x rfl;simp
      unfold Instr.lookup;rw[aa7,run_underlying hu,aaE];rcases h1 with⟨rfl,rfl⟩|⟨q,clock,rfl,hb⟩
      ·simp only[pure_bind];exact Vv
      ·simp only[aa7,MapKept.run_getObj_map hb,aaE,pure_bind];simp only[aa7]at Vv;exact Vv
   cases m with
   |qY=>
    obtain rfl:=hm.Uv;simp only at hh;obtain⟨v,b,u,g1,g2,g3,g4⟩:=fin [] [] #[] rfl rfl (fun i k e hk=>by simp at hk) (fun i k e hk=>by simp at hk) hh
    exact⟨_,wrap #[] v b u (.inl ⟨rfl,rfl⟩) g1 g2 g3,g4⟩
   |oo ks vs=>
    cases hm with
    |fJ hc=>
     cases hc with
     |oo _ _ bl clock es Xb hb Jy Cu O9 jk=>
      simp only at hh;obtain⟨v,b,u,g1,g2,g3,g4⟩:=fin ks vs es Jy Cu (fun i k e h1 h2=>.fJ (O9 i k e h1 h2)) (fun i v e h1 h2=>.fJ (jk i v e h1 h2)) hh
      exact⟨_,wrap es v b u (.inr ⟨_,_,rfl,hb⟩) g1 g2 g3,g4⟩
   |map id=>
    obtain⟨bl,rfl,Cv⟩:=hm.map'
    cases ho:h[id]? with
    |none=>simp[ho]at hh
    |some o=>
     cases o with
     |qv ks vs=>
      simp only[ho]at hh;rcases Cv with Cv|Cv
      ·have zE:=s.obj id _ _ ho Cv;simp only[eO]at zE;obtain⟨es,clock,hb,Jy,Cu,O9,jk⟩:=zE;obtain⟨v,b,u,g1,g2,g3,g4⟩:=fin ks vs es Jy Cu O9 jk hh;exact⟨_,wrap es v b u (.inr ⟨_,_,rfl,hb⟩) g1 g2 g3,g4⟩
      ·have:=s.obj id _ _ ho Cv
       simp[eO]at this
     |_=>simp[ho]at hh
   |_=>simp at hh
  ·cases hh
 ·cases hh
theorem Cw{a r:af}{v:Value}{i:Nat}(hh:Ai a i=some r)(ha:de E w a v):lL P E w (Instr.extract v i) r:=by
 unfold Ai at hh;split at hh
 ·rename_i vs;obtain⟨us,rfl,hl,hr⟩:=ha.SE;have fK:i<us.size:=by rw[<-hl];exact(aag.1 hh).1
  obtain⟨u,hu⟩:=eM fK;exact⟨u,by simp[Instr.extract,hu],hr i r u hh hu⟩
 ·cases hh
end
end Go.Am
set_option maxHeartbeats 4000000
namespace Go.Am
open Go
def lR:Op->Bool
 | .move _=>true
 | .assign _=>true
 | .pick _ _ _=>true
 | .load _ _=>true
 | .nilCheck _=>true
 | .binOp _ _ _ _ _=>true
 | .unOp _ _ _=>true
 | .convert _ _ _=>true
 | .makeInterface _ _=>true
 | .makeFunc _ _ _=>true
 | .slice _ _ _ _ _=>true
 | .fieldAddr _ _ _=>true
 | .field _ _ _=>true
 | .indexAddr _ _ _=>true
 | .index _ _ _=>true
 | .lookup _ _ _ _=>true
 | .extract _ _=>true
 | .call {callee:=.builtin .len,..}=>true
 | .call {callee:=.builtin .min,..}=>true
 | .call {callee:=.builtin .max,..}=>true
 |_=>false
structure iA(G:Nat->Option af)(E:Env)(w:World)(tm:Nat->af)(ρ:Operand->Value)(xs:Array Operand):Prop where
 rep: ∀x∈xs,∀v,ev G tm x=some v->de E w v (ρ x)
 con: ∀c,ρ (.const c)=c
instance{G:Nat->Option af}{E:Env}{w:World}{tm:Nat->af}{ρ:Operand->Value}{xs:Array Operand}:CoeFun (iA G E w tm ρ xs) (fun _=>∀x∈xs,∀v,ev G tm x=some v->de E w v (ρ x)):=⟨iA.rep⟩
section
variable{cf:eP}{E:Env}{w:World}{tm:Nat->af}{ρ:Operand->Value}
theorem iA.list{xs:Array Operand}(hr:iA cf.G E w tm ρ xs){ys:Array Operand}(hs: ∀y∈ys,y∈xs){vs:List af}(h:di (ev cf.G tm) ys.toList=some vs):
  vs.length=(ys.map ρ).size/\ ∀(i:Nat)(c:af)(v:Value),vs[i]?=some c->(ys.map ρ)[i]?=some v->de E w c v:=by
   obtain⟨h1,h2⟩:=iO h;refine⟨by simp at h1⊢;omega,fun i c v hc hv=>?_⟩;simp only[Array.getElem?_map,nM]at hv;obtain⟨y,hy,rfl⟩:=hv;exact hr y (hs y (Array.mem_of_getElem? hy)) c (h2 i y c (by simpa using hy) hc)
def Xh(P:Program)(E:Env)(w:World)(x:Sem Next)(v:af):Prop:=∃u,x.run P w= .ok (.value u) w/\de E w v u
theorem lL.next{P:Program}{x:Sem Value}{v:af}(h:lL P E w x v):Xh P E w (do pure (.value (<-x))) v:=by
 obtain⟨u,h1,h2⟩:=h;exact⟨u,by simp[h1],h2⟩
theorem de.XM{fn:Fn}{a b:List af}{v:Value}(h:de E w (.func fn a b) v): ∃va vb,v= .func fn va vb:=by
 cases h with
 |fJ h=>cases h;exact⟨_,_,rfl⟩
 |func=>exact⟨_,_,rfl⟩
def Vw:TypeDesc->af->Prop
 | .slice _,.nil=>True
 | .slice _,.sl _=>True
 | .slice _,.own _ _ _=>True
 | .string,.str _=>True
 | .map _ _,.map _=>True
 | .map _ _,.qY=>True
 | .map _ _,.oo _ _=>True
 |_,_=>False
theorem Np{P:Program}{h:aG}(s:eG E h w){x:af}{v:Value}{n:Int}(hx:de E w x v)(hl:vG h x=some n)(t:TypeId)(d:TypeDesc)(hd:P.underlying t=some d)(ty:TypeId)
  (hk:Vw d x):lL P E w (Builtin.len_ #[t] ty #[v]) (.int .i64 n):=by
   revert hx hl hd
   unfold Vw at hk;split at hk<;>intro hx hl hd
   ·cases hl
    cases hx with
    |fJ hc=>cases hc with|nil a=>exact lL.int (by simp[Builtin.len_,run_underlying hd];rfl)
   ·cases hl
    cases hx with
    |fJ hc=>cases hc with|sl=>exact lL.int (by simp[Builtin.len_,run_underlying hd];rfl)
   ·cases hl
    cases hx with
    |fJ hc=>cases hc
    |own=>exact lL.int (by simp[Builtin.len_,run_underlying hd];rfl)
    |sE=>exact lL.int (by simp[Builtin.len_,run_underlying hd];rfl)
   ·cases hl
    obtain rfl:=hx.str;exact lL.int (by simp[Builtin.len_,run_underlying hd];rfl)
   ·rename_i id;obtain⟨b,rfl,hm⟩:=hx.map';simp only[vG]at hl
    cases ho:h[id]? with
    |none=>simp[ho]at hl
    |some o=>
     cases o with
     |qv ks vs=>
      simp only[ho]at hl;cases hl
      rcases hm with hm|hm
      ·have zE:=s.obj id _ _ ho hm;simp only[eO]at zE;obtain⟨es,clock,hb,Jy,_⟩:=zE;refine lL.int ?_;simp[Builtin.len_,run_underlying hd,MapKept.run_getObj_map hb,goInt,Jy]
      ·have:=s.obj id _ _ ho hm
       simp[eO]at this
     |_=>simp[ho]at hl
   ·cases hl
    obtain rfl:=hx.Uv;exact lL.int (by simp[Builtin.len_,run_underlying hd];rfl)
   ·cases hl
    cases hx with
    |fJ hc=>
     cases hc with
     |oo ks vs b clock es Xb hb hk hv rk rv=>exact lL.int (by simp[Builtin.len_,run_underlying hd,MapKept.run_getObj_map hb,goInt,hk])
   ·exact hk.elim
theorem Mb{b:Builtin}(hb:b= .max∨b= .min){ui:Array TypeId}{args:Array Operand}{as:List af}{h:aG}{r:JD}(ha:di (ev cf.G tm) args.toList=some as)(hv:dG cf tm h ⟨.builtin b,args,ui⟩=some r):
  ∃k x k' y,as=[.int k x,.int k' y]/\r= .val (.int k (if b= .max then(if y>x then y else x)else(if y<x then y else x))) h:=by
   rcases hb with rfl|rfl
   ·simp only[dG,ha]at hv;split at hv
    all_goals first|contradiction|(cases hv;done)|(cases hv;exact⟨_,_,_,_,rfl,rfl⟩)
   ·simp only[dG,ha]at hv;split at hv
    all_goals first|contradiction|(cases hv;done)|(cases hv;exact⟨_,_,_,_,rfl,rfl⟩)
theorem PJ{b:Builtin}(hb:b= .max∨b= .min){ui:Array TypeId}{args:Array Operand}{as:List af}{h:aG}{r:JD}(ha:di (ev cf.G tm) args.toList=some as)(hv:dG cf tm h ⟨.builtin b,args,ui⟩=some r): ∃v,r= .val v h:=by
 obtain⟨k,x,k',y,_,hr⟩:=Mb hb ha hv;exact⟨_,hr⟩
theorem GG{b:Builtin}(hb:b= .max∨b= .min){ui:Array TypeId}{args:Array Operand}{as:List af}{h:aG}{v:af}(ha:di (ev cf.G tm) args.toList=some as)
  (hv:dG cf tm h ⟨.builtin b,args,ui⟩=some (.val v h)) (hl:as.length=(args.map ρ).size) (hr: ∀(i:Nat)(c:af)(v:Value),as[i]?=some c->(args.map ρ)[i]?=some v->de E w c v) (dst:Option Tmp) (ty:TypeId) (pos:String) (after:Array Edge) (guard:Option (Nat×Bool)):
  Xh cf.P E w (execOp ρ ⟨dst,.call ⟨.builtin b,args,ui⟩,ty,pos,after,guard⟩) v:=by
   obtain⟨k,x,k',y,rfl,he⟩:=Mb hb ha hv;cases he
   have h1:args.map ρ= #[.int k x,.int k' y]:=by
    generalize args.map ρ=vs at hl hr
    match vs,hl,hr with
    |⟨[]⟩,hl,_=>simp at hl
    |⟨[_]⟩,hl,_=>simp at hl
    |⟨[u,u']⟩,_,hr=>
     have e1:=(hr 0 _ u rfl rfl).int;have e2:=(hr 1 _ u' rfl rfl).int;subst e1 e2
     rfl
    |⟨_::_::_::_⟩,hl,_=>simp at hl
   rcases hb with rfl|rfl
   ·exact⟨_,by simp[execOp,resolve,h1,invoke,builtin,Builtin.max_,Builtin.max2],.fJ (.int k _)⟩
   ·exact⟨_,by simp[execOp,resolve,h1,invoke,builtin,Builtin.min_,Builtin.min2],.fJ (.int k _)⟩
theorem oy{h:aG}{o:Op}{r:JD}(hr:lR o=true)(hv:aV cf tm h o=some r): ∃v,r= .val v h:=by
 by_cases hp:kW o=true
 ·cases o<;>simp only[kW]at hp<;>try(cases hp;done)
  all_goals simp only[aV]at hv
  case move x=>cases hx:ev cf.G tm x<;>simp[hx]at hv;exact⟨_,hv.symm⟩
  case assign x=>cases hx:ev cf.G tm x<;>simp[hx]at hv;exact⟨_,hv.symm⟩
  case pick c a b=>split at hv<;>simp at hv;exact⟨_,hv.symm⟩
  case load t a=>split at hv<;>simp at hv;obtain⟨a,_,rfl⟩:=hv;exact⟨_,rfl⟩
  case binOp=>split at hv<;>simp at hv;obtain⟨a,_,rfl⟩:=hv;exact⟨_,rfl⟩
  case unOp=>split at hv<;>simp at hv;obtain⟨a,_,rfl⟩:=hv;exact⟨_,rfl⟩
  case convert=>split at hv<;>simp at hv;obtain⟨a,_,rfl⟩:=hv;exact⟨_,rfl⟩
  case fieldAddr=>split at hv<;>simp at hv<;>exact⟨_,hv.symm⟩
  case field=>split at hv<;>simp at hv;obtain⟨a,_,rfl⟩:=hv;exact⟨_,rfl⟩
  case indexAddr=>split at hv<;>simp at hv;obtain⟨a,_,rfl⟩:=hv;exact⟨_,rfl⟩
  case index=>split at hv<;>simp at hv;obtain⟨a,_,rfl⟩:=hv;exact⟨_,rfl⟩
  case lookup=>split at hv<;>simp at hv;obtain⟨a,_,rfl⟩:=hv;exact⟨_,rfl⟩
  case extract=>split at hv<;>simp at hv;obtain⟨a,_,rfl⟩:=hv;exact⟨_,rfl⟩
  case call c=>
   obtain⟨callee,args,ui⟩:=c
   cases callee with
   |value f=>cases hp
   |invoke r m=>cases hp
   |builtin b=>
    cases b<;>simp only at hp<;>try(cases hp;done)
    simp only[dG]at hv
    cases ha:di (ev cf.G tm) args.toList with
    |none=>simp[ha]at hv
    |some as=>
     simp only[ha]at hv
     match as,hv with
     | [x],hv=>
      simp only at hv;split at hv
      ·split at hv<;>simp at hv<;>exact⟨_,hv.symm⟩
      ·split at hv<;>simp at hv<;>exact⟨_,hv.symm⟩
      ·split at hv<;>simp at hv<;>exact⟨_,hv.symm⟩
      ·cases hv
     | [],hv=>cases hv
     |_::_::_,hv=>cases hv
 ·cases o<;>simp only[lR]at hr<;>(try(cases hr;done))<;>(try(exact absurd rfl hp))
  all_goals simp only[aV]at hv
  case nilCheck x=>
   split at hv
   ·split at hv<;>simp at hv;exact⟨_,hv.symm⟩
   ·cases hv
  case makeInterface t x=>
   split at hv
   ·split at hv<;>simp at hv;exact⟨_,hv.symm⟩
   ·cases hv
  case makeFunc=>split at hv<;>simp at hv;exact⟨_,hv.symm⟩
  case slice=>split at hv<;>simp at hv;obtain⟨a,_,rfl⟩:=hv;exact⟨_,rfl⟩
  case call c=>
   obtain⟨callee,args,ui⟩:=c
   cases callee with
   |value f=>cases hr
   |invoke r m=>cases hr
   |builtin b=>
    cases ha:di (ev cf.G tm) args.toList with
    |none=>simp[dG,ha]at hv
    |some as=>
     cases b<;>simp only at hr<;>(try(cases hr;done))<;>(try(exact absurd rfl hp))
     ·exact PJ (.inl rfl) ha hv
     ·exact PJ (.inr rfl) ha hv
theorem JP{h:aG}(s:eG E h w){o:Oper}{v:af}(hp:lR o.op=true)(hr:iA cf.G E w tm ρ o.op.operands)(hv:aV cf tm h o.op=some (.val v h)):Xh cf.P E w (execOp ρ o) v:=by
 obtain⟨dst,op,ty,pos,after,guard⟩:=o;simp only at hp hr hv;cases op<;>simp only[lR]at hp<;>try(cases hp;done)
 all_goals simp only[Op.operands]at hr
 case move x=>
  simp only[aV,nM]at hv;obtain⟨a,hx,he⟩:=hv;cases he
  exact⟨ρ x,rfl,hr x (by simp) _ hx⟩
 case assign x=>
  simp only[aV,nM]at hv;obtain⟨a,hx,he⟩:=hv;cases he
  exact⟨ρ x,rfl,hr x (by simp) _ hx⟩
 case pick c a b=>
  simp only[aV]at hv;split at hv
  ·rename_i t x y hc ha hb;cases hv
   have h1:=hr c (by simp) _ hc;have h2:=hr a (by simp) _ ha;have h3:=hr b (by simp) _ hb;refine⟨if t then ρ a else ρ b,?_,?_⟩
   ·simp[execOp,h1.bool,asBool]
   ·cases t<;>simp only[XG]<;>assumption
  ·cases hv
 case load t a=>
  simp only[aV]at hv;split at hv
  ·rename_i x hx;simp only[nM]at hv;obtain⟨r,xC,he⟩:=hv;cases he
   exact lL.next (Ar s (hr a (by simp) _ hx) xC)
  ·cases hv
 case nilCheck x=>
  simp only[aV]at hv;split at hv
  ·rename_i a hx;split at hv
   ·rename_i hn;cases hv
    have h1:=hr x (by simp) _ hx;refine⟨ρ x,?_,h1⟩;cases v<;>simp only[Ut]at hn<;>try(cases hn;done)
    case ptr id i off=>
     obtain⟨ad,he⟩:=h1.zP (.inl ⟨_,_,_,rfl⟩);simp[execOp,he]
    case fQ xs i off=>
     obtain⟨ad,he⟩:=h1.zP (.inr ⟨_,_,_,rfl⟩);simp[execOp,he]
    case iface t a=>
     obtain⟨u,he,_⟩:=h1.Av;simp[execOp,he]
    case func fn a b=>
     cases fn<;>simp only at hn<;>try(cases hn;done)
     rename_i g
     have he: ∃va vb,ρ x= .func (.func g) va vb:=by
      exact h1.XM
     obtain⟨va,vb,he⟩:=he;simp[execOp,he]
   ·cases hv
  ·cases hv
 case binOp op t x y t2=>
  simp only[aV]at hv;split at hv
  ·rename_i a b ha hb;simp only[nM]at hv;obtain⟨r,xC,he⟩:=hv;cases he
   exact lL.next (JM xC (hr x (by simp) _ ha) (hr y (by simp) _ hb) fun c hc=>by rw[hc];exact hr.con c)
  ·cases hv
 case unOp op t x=>
  simp only[aV]at hv;split at hv
  ·rename_i a ha;simp only[nM]at hv;obtain⟨r,xC,he⟩:=hv;cases he
   exact lL.next (Nj xC (hr x (by simp) _ ha))
  ·cases hv
 case convert sr d x=>
  simp only[aV]at hv;split at hv
  ·rename_i a ha;simp only[nM]at hv;obtain⟨r,xC,he⟩:=hv;cases he
   exact lL.next (Gz s xC (hr x (by simp) _ ha))
  ·cases hv
 case makeInterface t x=>
  simp only[aV]at hv;split at hv
  ·rename_i a d ha hd;split at hv
   ·cases hv
   ·rename_i hni;cases hv
    refine lL.next ⟨.iface t (ρ x),?_,.iface t a _ (hr x (by simp) _ ha)⟩;simp only[Instr.makeInterface,aa7,run_underlying hd,aaE];cases d<;>first|rfl|exact absurd rfl (hni _)
  ·cases hv
 case makeFunc fn a b=>
  simp only[aV]at hv;split at hv
  ·rename_i as bs ha hb;cases hv
   obtain⟨l1,r1⟩:=iA.list hr (ys:=a) (fun y hy=>by simp[hy]) ha;obtain⟨l2,r2⟩:=iA.list hr (ys:=b) (fun y hy=>by simp[hy]) hb;exact lL.next ⟨_,rfl,.func fn as bs _ _ l1 l2 r1 r2⟩
  ·cases hv
 case slice t x lo hi mx=>
  simp only[aV]at hv;split at hv
  ·rename_i a Mc qz ha zQ L9;simp only[nM]at hv;obtain⟨r,xC,he⟩:=hv;cases he
   have bound: ∀(l:Option Operand)(l':Option Int),vI cf.G tm l=some l'->(∀o,l=some o->o∈ #[x]++lo.toArray++hi.toArray++(none:Option Operand).toArray)->
     (∀i,l'=some i-> ∃k,l.map ρ=some (.int k i))/\(l'=none->l.map ρ=none):=by
      intro l l' hl hm
      cases l with
      |none=>simp only[vI]at hl;cases hl;exact⟨fun i h=>(by cases h),fun _=>rfl⟩
      |some o=>
       simp only[vI,nM,abC]at hl;obtain⟨i,⟨a,ha,hi⟩,rfl⟩:=hl;refine⟨fun j h=>?_,fun h=>by cases h⟩;cases h
       cases a<;>simp only[Ps]at hi<;>try(cases hi;done)
       cases hi
       have:=hr o (hm o rfl) _ ha;exact⟨_,by simp[this.int];rfl⟩
   obtain⟨b1,b2⟩:=bound lo Mc zQ (fun o ho=>by subst ho;simp);obtain⟨b3,b4⟩:=bound hi qz L9 (fun o ho=>by subst ho;simp);exact lL.next (GA s xC (hr x (by simp) _ ha) b1 b2 b3 b4)
  ·cases hv
 case fieldAddr sT x f=>
  simp only[aV]at hv;split at hv
  ·rename_i id i off k ha hk;cases hv
   obtain⟨u,h1,h2⟩:=(sb hk (hr x (by simp) _ ha)).1 _ _ _ rfl;exact lL.next ⟨u,h1,h2⟩
  ·rename_i xs i off k ha hk;cases hv
   obtain⟨u,h1,h2⟩:=(sb hk (hr x (by simp) _ ha)).2 _ _ _ rfl;exact lL.next ⟨u,h1,h2⟩
  ·cases hv
 case field t x f=>
  simp only[aV]at hv;split at hv
  ·rename_i a ha;simp only[nM]at hv;obtain⟨r,xC,he⟩:=hv;cases he
   exact lL.next (Gv (hr x (by simp) _ ha) xC)
  ·cases hv
 case indexAddr t x i=>
  simp only[aV]at hv;split at hv
  ·rename_i a k i' ha hi;simp only[nM]at hv;obtain⟨r,xC,he⟩:=hv;cases he
   have h2:=(hr i (by simp) _ hi).int;simp only[execOp,h2];exact lL.next (JN s xC (hr x (by simp) _ ha))
  ·cases hv
 case index t x i=>
  simp only[aV]at hv;split at hv
  ·rename_i a k i' ha hi;simp only[nM]at hv;obtain⟨r,xC,he⟩:=hv;cases he
   have h2:=(hr i (by simp) _ hi).int;simp only[execOp,h2];exact lL.next (GC xC (hr x (by simp) _ ha))
  ·cases hv
 case lookup t m k ok=>
  simp only[aV]at hv;split at hv
  ·rename_i a b ha hb;simp only[nM]at hv;obtain⟨r,xC,he⟩:=hv;cases he
   exact lL.next (JO s xC (hr m (by simp) _ ha) (hr k (by simp) _ hb))
  ·cases hv
 case extract t i=>
  simp only[aV]at hv;split at hv
  ·rename_i a ha;simp only[nM]at hv;obtain⟨r,xC,he⟩:=hv;cases he
   exact lL.next (Cw xC (hr t (by simp) _ ha))
  ·cases hv
 case call c=>
  obtain⟨callee,args,ui⟩:=c
  cases callee with
  |value f=>cases hp
  |invoke r m=>cases hp
  |builtin b=>
   simp only[aV,dG]at hv
   cases ha:di (ev cf.G tm) args.toList with
   |none=>simp[ha]at hv
   |some as=>
    simp only[ha]at hv;obtain⟨hl,So⟩:=iA.list hr (ys:=args) (fun y hy=>by simp[Call.operands,hy]) ha;cases b<;>simp only at hp<;>try(cases hp;done)
    case len=>
     match as,hv with
     | [x],hv=>
      have h1: ∃u,args.map ρ= #[u]:=by
       generalize args.map ρ=vs at hl
       match vs,hl with
       |⟨[]⟩,hl=>simp at hl
       |⟨[u]⟩,_=>exact⟨u,rfl⟩
       |⟨_::_::_⟩,hl=>simp at hl
      obtain⟨u,hu⟩:=h1;have hx:de E w x u:=So 0 x u rfl (by rw[hu];rfl);simp only at hv
      have fin: ∀(n:Int)(t:TypeId)(d:TypeDesc),ui[0]?=some t->cf.P.underlying t=some d->vG h x=some n->
        Vw d x->Xh cf.P E w (execOp ρ ⟨dst,.call {callee:=.builtin .len,args,argTypes:=ui},ty,pos,after,guard⟩) (.int .i64 n):=by
         intro n t d ht hd hn hk;obtain⟨z,hz,Md⟩:=Np s hx hn t d hd ty hk;refine⟨z,?_,Md⟩;have e:Builtin.len_ ui ty #[u]=Builtin.len_ #[t] ty #[u]:=by simp[Builtin.len_,ht]
         simp only[execOp,resolve,hu,invoke,builtin,aa7,Sem.run_pure,aaE,e,hz]
      split at hv
      ·rename_i e n hd hn;simp only[abC]at hd;obtain⟨t,ht,hd⟩:=hd;cases x<;>simp only at hv<;>first|cases hv|skip
       all_goals first|exact fin n t _ ht hd hn trivial|(simp[vG]at hn;done)
      ·rename_i n hd hn;simp only[abC]at hd;obtain⟨t,ht,hd⟩:=hd;cases x<;>simp only at hv<;>first|cases hv|skip
       all_goals first|exact fin n t _ ht hd hn trivial|(simp[vG]at hn;done)
      ·rename_i n hd hn;simp only[abC]at hd;obtain⟨t,ht,hd⟩:=hd;cases x<;>simp only at hv<;>first|cases hv|skip
       all_goals first|exact fin n t _ ht hd hn trivial|(simp[vG]at hn;done)
      ·cases hv
     | [],hv=>cases hv
     |_::_::_,hv=>cases hv
    case max=>exact GG (.inl rfl) ha (by simp only[dG,ha];exact hv) hl So _ _ _ _ _
    case min=>exact GG (.inr rfl) ha (by simp only[dG,ha];exact hv) hl So _ _ _ _ _
end
end Go.Am

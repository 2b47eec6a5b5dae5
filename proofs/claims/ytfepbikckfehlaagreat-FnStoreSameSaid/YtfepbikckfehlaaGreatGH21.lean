/- How wide plans are over tables: the program's. -/
import Derived.Test.YtfepbikckfehlaaGreatGH20
set_option linter.unusedVariables false
set_option linter.unusedSimpArgs false
set_option maxHeartbeats 4000000
namespace Go.Am
open Go
end Go.Am
namespace Go.Proofs.YtfepbikckfehlaaGreat
open Go Go.Am
set_option maxRecDepth 100000
theorem TK(h:aG):jr cf none 89 [.sl []] h HM fun v h' _=>v= .nil/\h'=h:=by
 refine tP (Ky:=V7) (wm Qz) (by kernel_rfl) fun B=>?_;conv=>whnf
 intro b;conv=>whnf
 refine ae (fun hb=>?_) (fun hb=>?_)
 ·conv=>whnf
  exact⟨_,rfl,rfl,rfl⟩
 ·conv=>whnf
  refine⟨trivial,?_⟩;conv=>whnf
  refine⟨rfl,?_⟩;conv=>whnf
  exact⟨_,rfl,rfl,rfl⟩
theorem QO{f:FuncId}{h:aG}(hc:jr cf none f [.sl []] h HM fun v h' _=>v= .nil/\h'=h){E:Env}{w:World}{vs:Array Value}(s:eG E h w)(hf:Full E h)(hg:ug gV E.S w)(hr:hH E w [.sl []] vs):
  Calls Tryz.prog f vs w (vX E h w (.ret .nil h)):=by
   refine Calls.mono (hc E w vs s hf hg hr trivial) fun e w' he=>?_
   cases e with
   |panicked ch=>exact he.elim
   |outgrown=>exact he.elim
   |returned u=>
    obtain⟨v,h',g',E',⟨rfl,rfl⟩,s',f',x',r',_⟩:=he;exact⟨.nil,_,E',rfl,s',f',⟨⟨x'.S,x'.SN,fun b h1 h2=>x'.mem b h1 h2 id,x'.m,x'.new,x'.len,x'.size,x'.os,x'.tape,x'.output⟩,x'.fresh⟩,r'⟩
noncomputable def wD(f:FuncId)(args:List af)(h:aG):Option ef:=match args with
 | [.sl []]=>some (.ret .nil h)
 |_=>call (dZ TF) f args h
noncomputable def HT:bW:=fun f=>
 if f==89 then some (wD f)else TF f
theorem ok2:cF HT:=⟨fun f h=>by
 unfold HT;rw[HO h (g:=89) (by rfl)];exact ok1.out f h⟩
theorem TL(f:FuncId)(h:bad f=true):HT f≠none:=by
 unfold HT
 repeat' split
 all_goals first
  |exact Mx f h
  |exact fun e=>by cases e
theorem N1(t:aA)(ht:t.small):dK HT 29 [t.enc] (.bool (lW t)):=by
 refine Qs (p:=sV) rfl rfl ?_ (CG ht) rfl;obtain⟨au,n,aD,cells,a,b,aq,agg,col,ao⟩:=t;rfl
theorem KE{f:FuncId}(hy: ∀h,jr cf none f [.sl []] h HM fun v h' _=>v= .nil/\h'=h){args:List af}{h:aG}{r:ef}(hr:wD f args h=some r)(E:Env)(w:World)(vs:Array Value)(hb:ia Tryz.prog f=true)(s:eG E h w)(hf:Full E h)(hg:ug gV E.S w)(lU:hH E w args vs):
  Calls Tryz.prog f vs w (vX E h w r):=by
   unfold wD at hr;split at hr
   ·cases hr;exact QO (hy h) s hf hg lU
   ·exact uN US f args h r hr E w vs hb s hf hg lU
theorem YL:wj (dZ HT):=EN TL fun f p args h r hp hr E w vs hb s hf hg lU=>by
 unfold HT at hp;split at hp
 ·rename_i e;have:f=89:=by simpa using e
  subst this;cases hp;exact KE TK hr E w vs hb s hf hg lU
 ·exact US.Qf f p args h r hp hr E w vs hb s hf hg lU
def TM{α:Type}(f:α->af)(sz:Nat)(pr:bW)(fn:FuncId)(args:List af)(xs:List α):Prop:=∃v h F,call (dZ pr) fn args []=some (.ret v h)/\kh f sz h xs v F/\F.Nodup/\(v= .nil∨ ∃id,v= .own id 0 xs.length)
theorem TM.toL{α:Type}{f:α->af}{sz:Nat}{pr:bW}{fn:FuncId}{args:List af}{xs:List α}(h:TM f sz pr fn args xs):N0 f sz pr fn args xs:=by
 obtain⟨v,h,F,h1,h2,h3,_⟩:=h;exact⟨v,h,F,h1,h2,h3⟩
structure DE(pr:bW):Prop extends cF pr where
 size: ∀t:aA,t.small->dK pr 29 [t.enc] (.bool (lW t))
 QP: ∀xs:List Int,xs.length<=1048576->TM i64 1 pr 89 [.sl (xs.map i64)] xs
theorem HU{f:FuncId}{p:List af->aG->Option ef}(hp:HT f=some p)(args:List af)(h:aG):call (dZ HT) f args h=p args h:=by
 rw[vK];unfold nJ;have:(dZ HT).pr f=some p:=hp;simp only[this]
theorem TN(xs:List Int)(hl:xs.length<=1048576):TM i64 1 HT 89 [.sl (xs.map i64)] xs:=by
 cases xs with
 |nil=>exact⟨.nil,[],[],by rw[HU (p:=wD _) rfl];rfl,.inl ⟨rfl,rfl,.inl rfl⟩,by simp,.inl rfl⟩
 |cons x xs=>
  suffices hw:Yu (dZ TF) 89 [.sl ((x::xs).map i64)] [] (fun r=>∃v h F,r= .ret v h/\kh i64 1 h (x::xs) v F/\F.Nodup/\(v= .nil∨ ∃id,v= .own id 0 (x::xs).length)) by
   obtain⟨r,hr,v,h,F,rfl,h1,h2,h3⟩:=Dv rfl hw;exact⟨v,h,F,by rw[HU (p:=wD _) rfl];exact hr,h1,h2,h3⟩
  conv=>whnf
  refine⟨trivial,?_⟩;conv=>whnf
  refine⟨?_,?_⟩
  ·rw[aaj];intro y hy;obtain⟨z,_,rfl⟩:=aaO.1 hy;rfl
  conv=>whnf
  refine⟨by simp[bB]at hl⊢;omega,?_⟩;conv=>whnf
  exact⟨_,_,[0],rfl,.inr ⟨0,by simp;rfl,rfl,rfl⟩,by simp,.inr ⟨0,by simp;rfl⟩⟩
theorem abp:DE HT where
 tocF:=ok2
 size:=N1
 QP:=TN
end Go.Proofs.YtfepbikckfehlaaGreat
set_option maxHeartbeats 4000000
namespace Go.Proofs.YtfepbikckfehlaaGreat
open Go Go.Am
variable{pr:bW}(hp:cF pr)(hs:DE pr)
set_option maxRecDepth 100000
theorem KF(hs:DE pr)(p:aA)(gu:p.small):dK pr 110 [p.enc] (.bool (fit p)):=by
 have h1:=hs.size p gu;have h2:=Qx hs.tocF w6 (by decide) _ p (aah _) gu;rw[<-EZ];obtain⟨au,n,aD,cells,a,b,aq,agg,c,ao⟩:=p;refine cX hs.tocF rfl rfl ?_;conv=>whnf
 refine⟨_,h1 _,?_⟩;conv=>whnf
 refine ae (fun g1=>?_) (fun g1=>?_)
 ·conv=>whnf
  refine⟨_,h2.frozen rfl rfl rfl rfl,?_⟩
  iterate 3
   all_goals(try(conv=>whnf))
   all_goals(first|(refine ae (fun hb=>?_) (fun hb=>?_))|skip)
  all_goals exact bw (by rw[tQ,g1,aay];exact hb.symm)
 ·conv=>whnf
  exact bw (by rw[tQ,g1];rfl)
end Go.Proofs.YtfepbikckfehlaaGreat
set_option maxHeartbeats 4000000
namespace Go.Am
open Go
theorem cm{cf:eP}{tm:Nat->af}{h:aG}{t:TypeId}{a:Operand}{id off:Nat}{x v v':af}(ha:ev cf.G tm a=some (.ptr id 0 off))(hx:h[id]?=some (.box x))(hp:fZ cf.P t x off=some v)(he:v'=v):
  aV cf tm h (.load t a)=some (.val v' h):=by
   subst he;simp only[aV,ha,ku,hx,hp,if_true,aaL]
def lY(L:List Chunk):List Nat->List Chunk
 | []=>[]
 |i::is=>match L[i]? with
  |some c=>c::lY L is
  |none=>lY L is
theorem xW{L:List Chunk}{d:Chunk}: ∀{is:List Nat},d∈lY L is-> ∃j∈is,L[j]?=some d
 | [],h=>by simp[lY]at h
 |i::is,h=>by
  simp only[lY]at h;split at h
  ·rename_i c hc;rcases aaz.1 h with rfl|h
   ·exact⟨i,by simp,hc⟩
   ·obtain⟨j,hj,hd⟩:=xW h;exact⟨j,by simp[hj],hd⟩
  ·obtain⟨j,hj,hd⟩:=xW h;exact⟨j,by simp[hj],hd⟩
theorem aj.YM{h:aG}{L:List Chunk}{c:Chunk}(s:aj h L)(hc:c.P h)(hn:c.F.Nodup)(ha: ∀d∈L,∀id∈c.F,id∉d.F):aj h (c::L):=by
 refine⟨fun i d hi=>?_,fun i j d e yP hi hj id dm hm=>?_⟩
 ·cases i with
  |zero=>simp at hi;subst hi;exact⟨hc,hn⟩
  |succ i=>exact s.get' i d (by simpa using hi)
 ·cases i with
  |zero=>
   simp at hi;subst hi
   cases j with
   |zero=>exact yP rfl
   |succ j=>exact ha e (aaq (by simpa using hj)) id dm hm
  |succ i=>
   cases j with
   |zero=>simp at hj;subst hj;exact ha d (aaq (by simpa using hi)) id hm dm
   |succ j=>exact s.apart i j d e (by omega) (by simpa using hi) (by simpa using hj) id dm hm
theorem aj.pick{h:aG}{L:List Chunk}(s:aj h L): ∀(is:List Nat),is.Nodup->aj h (lY L is)
 | [],_=>aj.nil h
 |i::is,hn=>by
  obtain⟨h1,h2⟩:=List.nodup_cons.1 hn;simp only[lY];split
  ·rename_i c hc
   exact(s.pick is h2).YM (s.get' i c hc).1 (s.get' i c hc).2 fun d hd=>by
    obtain⟨j,hj,hd⟩:=xW hd;exact s.apart i j c d (fun e=>h1 (e▸hj)) hc hd
  ·exact s.pick is h2
def oW{α:Type}(f:α->af)(sz:Nat)(h:aG)(xs:List α)(v:af):Prop:=(xs=[]/\v= .nil)∨ ∃id,v= .own id 0 xs.length/\h[id]?=some (.arr sz (xs.map f))
def pO:af->List Nat
 | .own id _ _=>[id]
 |_=>[]
def Chunk.acc{α:Type}(f:α->af)(sz:Nat)(xs:List α)(v:af):Chunk:=⟨pO v,fun h=>oW f sz h xs v,fun h h' hp hf=>by
  rcases hp with hp|⟨id,rfl,h1⟩
  ·exact .inl hp
  ·exact .inr ⟨id,rfl,by rw[hf id (by simp[pO])];exact h1⟩,fun h hp id dm=>by
  rcases hp with⟨_,rfl⟩|⟨id',rfl,h1⟩
  ·simp[pO]at dm
  ·simp[pO]at dm;subst dm;exact ib h1⟩
theorem aj.nF{α:Type}(f:α->af)(sz:Nat){h:aG}{L:List Chunk}(s:aj h L):aj h (.acc f sz [] .nil::L):=
 s.more (c:=.acc f sz [] .nil) (aa2 _) (.inl ⟨rfl,rfl⟩) (by simp[Chunk.acc,pO]) (by simp[Chunk.acc,pO])
def oX(h:aG):Prop:=h.all dH.re=true
theorem oX.alloc{h h':aG}{o:dH}(hp:oX h)(ho:o.re=true)(e:h'=h++[o]):oX h':=by
 subst e;unfold oX at*;rw[List.all_append,hp];simp[ho]
theorem oX.set{h h':aG}{o:dH}{k:Nat}(hp:oX h)(ho:o.re=true)(e:h'=h.set k o):oX h':=by
 subst e;unfold oX at*;rw[aaj]at*;intro x hx;rcases List.mem_or_eq_of_mem_set hx with h|rfl
 ·exact hp x h
 ·exact ho
theorem qp{α:Type}{f:α->af}{sz:Nat}{h:aG}{B:List Chunk}{xs:List α}{x:α}{v:af}{K:af->aG->Prop}(S:aj h (.acc f sz xs v::B))(hl:xs.length+1<=bB)
  (hK: ∀k h',aj h' (.acc f sz (xs++[x]) (.own k 0 (xs++[x]).length)::B)->(oX h->(∀y∈xs++[x],(f y).Pw=true)->oX h')->K (.own k 0 (xs++[x]).length) h'):Kk h sz v [f x] K:=by
   have key: ∀k h',(h'[k]?=some (.arr sz ((xs++[x]).map f)))->oW f sz h' (xs++[x]) (.own k 0 (xs++[x]).length):=fun k h' hk=>.inr ⟨k,rfl,hk⟩;have h0:oW f sz h xs v:=S.get 0 rfl;rcases h0 with⟨rfl,rfl⟩|⟨id,rfl,h1⟩
   ·refine .inr ⟨by simp,by simp[bB],fun k h' e1 e2=>?_⟩;have S1:=(S.drop 0).alloc e1 e2;dsimp only[List.eraseIdx]at S1;refine hK k h' ((S1.front 0 rfl).qo 0 (c:=.row k (.arr sz [f x])) (c':=.acc f sz [x] (.own k 0 1)) rfl (fun _ _ _=>rfl) (.inr ⟨k,rfl,gD e1 e2⟩) (by simp[Chunk.acc,pO]) (fun id dm=>.inl dm)) fun hp hy=>hp.alloc (by simpa[dH.re]using hy x (by simp)) e2
   ·have O8:(xs.map f).length=xs.length:=by simp
    refine⟨_,h1,rfl,by simp,.inr ⟨by simp,hl,fun k h' e1 e2=>?_⟩⟩;rw[show(xs.map f).take xs.length=xs.map f by rw[abt (by simp)]]at e2⊢;have e3:xs.map f++[f x]=(xs++[x]).map f:=by simp
    rw[e3]at e2⊢;have S1:=S.qo 0 (c':=.row id .dead) (h':=h.set id .dead) rfl (fun j hj mD=>abJ (fun e=>mD (by simp[Chunk.acc,pO,e]))) (gQ rfl h1) (by simp[Chunk.row]) (fun j hj=>.inl hj);dsimp only[List.set]at S1;have S2:=(S1.drop 0).alloc (by simpa using e1) e2;dsimp only[List.eraseIdx]at S2;rw[aat]
    exact hK k h' (S2.qo 0 (c:=.row k (.arr sz ((xs++[x]).map f))) (c':=.acc f sz (xs++[x]) (.own k 0 (xs++[x]).length)) rfl (fun _ _ _=>rfl) (.inr ⟨k,rfl,S2.row 0 rfl⟩) (by simp[Chunk.acc,pO]) (fun id dm=>.inl dm))
     fun hp hy=>(hp.set rfl rfl).alloc (by rw[dH.re,aaj];intro z hz;obtain⟨y,hy',rfl⟩:=aaO.1 hz;exact hy y hy') e2
theorem oW.frozen{α:Type}{f:α->af}{sz:Nat}{h:aG}{xs:List α}{v:af}(ha:oW f sz h xs v)(hf: ∀x∈xs,cI h 4194303 (f x)=some (f x)):snap h v=some (.sl (xs.map f)):=by
 rcases ha with⟨rfl,rfl⟩|⟨id,rfl,h1⟩
 ·rfl
 ·have:=qG h1 fun x hx=>by obtain⟨y,hy,rfl⟩:=aaO.1 hx;exact hf y hy
  simpa using this
theorem oW.cases{α:Type}{f:α->af}{sz:Nat}{h:aG}{xs:List α}{v:af}(ha:oW f sz h xs v):v= .nil∨ ∃id,v= .own id 0 xs.length:=by
 rcases ha with⟨_,h⟩|⟨id,h,_⟩
 ·exact .inl h
 ·exact .inr ⟨id,h⟩
theorem rG{h:aG}{a a':af}(ha:snap h a=some a'):dc h [a]=some [a']:=by simp only[dc,di,ha]
theorem lj{h:aG}{a a' b b':af}(ha:snap h a=some a')(hb:snap h b=some b'):dc h [a,b]=some [a',b']:=by simp only[dc,di,ha,hb]
theorem bT{h:aG}{k sz:Nat}{v:af}(hk:h[k]?=some (.arr sz [v])):lN h (.own k 0 1)=some [v]:=by
 simp only[lN,hk];rfl
end Go.Am
namespace Go.Proofs.YtfepbikckfehlaaGreat
open Go Go.Am
variable{pr:bW}(hp:cF pr)
set_option maxRecDepth 100000
def TO(pr:bW)(f:FuncId)(args:List af)(res:af):Prop:=∃v h1,call (dZ pr) f args []=some (.ret v h1)/\snap h1 v=some res
theorem TO.fJ{f:FuncId}{args dD:List af}{res:af}(hr:TO pr f dD res)(hM:gI f=Am.Mode.K)(hs:dc [] args=some dD): ∀h,cj (dZ pr) (call (dZ pr)) f args h=some (.ret res h):=by
 intro h;obtain⟨v,h1,hc,hv⟩:=hr;have hm:(dZ pr).M f= .K:=hM;unfold cj;simp only[hm,hs,hc,hv,aaL]
theorem TO.own{f:FuncId}{args dD:List af}{res:af}{h:aG}(hr:TO pr f dD res)(hM:gI f=Am.Mode.K)(hn:dc [] args=none)(ho:args.all (af.Vp h)=true)(vD:oX h)(hs:dc h args=some dD):
  cj (dZ pr) (call (dZ pr)) f args h=some (.ret res (h.map dH.freeze)):=by
   obtain⟨v,h1,hc,hv⟩:=hr;have hm:(dZ pr).M f= .K:=hM;have abq:h.all dH.re=true:=vD;unfold cj;simp only[hm,hn,ho,abq,Bool.and_true,hs,hc,hv,aaL]
end Go.Proofs.YtfepbikckfehlaaGreat
set_option maxHeartbeats 4000000
namespace Go.Am
theorem DF{cf:eP}{tm:Nat->af}{h:aG}{t:TypeId}{x:Operand}{lo hi:Option Operand}{Mc qz:Option Int}{xs:List af}{p:TypeId×Nat}{v:af}
  (hx:ev cf.G tm x=some (.sl xs)) (hl:vI cf.G tm lo=some Mc) (hh:vI cf.G tm hi=some qz) (ht:my cf.P t=some p)
  (hc:0<=Mc.getD 0/\Mc.getD 0<=qz.getD xs.length/\qz.getD xs.length<=xs.length/\xs.all (fun y=>y.cells.length==p.2)=true)
  (hv:v= .sl ((xs.drop (Mc.getD 0).toNat).take ((qz.getD xs.length).toNat-(Mc.getD 0).toNat))):
  aV cf tm h (.slice t x lo hi none)=some (.val v h):=by
   subst hv;obtain⟨t0,sz⟩:=p;simp only[aV,hx,hl,hh,nA,ht];rw[if_pos hc];rfl
end Go.Am
namespace Go.Proofs.YtfepbikckfehlaaGreat
open Go Go.Am
variable{pr:bW}(hp:cF pr)
set_option maxRecDepth 100000
theorem ff(hp:cF pr){f:FuncId}{args:List af}{res:af}(hn:UO f=true)(ha:dc [] args=some args)(hw:Hm (dZ pr) f args [] (fun r=>∃v h,r= .ret v h/\snap h v=some res)):dK pr f args res:=by
 intro h;obtain⟨r,hr,v,h1,rfl,hs⟩:=mM (hp.out f (by unfold UO at hn;simp only[xz]at hn;exact hn.1)) hw;have hm:(dZ pr).M f= .P:=zU hn;unfold cj;simp only[hm,ha,hr,hs,aaL]
theorem br{h:aG}{b c:Bool}(hb:b=c): ∃r,some (ef.ret (.bool b) h)=some r/\ ∃v h1,r=ef.ret v h1/\snap h1 v=some (.bool c):=⟨_,rfl,_,_,rfl,by subst hb;rfl⟩
theorem eJ{h:aG}{k:IntKind}{b c:Int}(hb:b=c): ∃r,some (ef.ret (.int k b) h)=some r/\ ∃v h1,r=ef.ret v h1/\snap h1 v=some (.int k c):=⟨_,rfl,_,_,rfl,by subst hb;rfl⟩
theorem aS{P:Program}{fn:Func}{st:St}{d t k a:Nat}{x v u:af}(hr:fn.results.toList=[.cell d t,.tmp k])(ht:st.tm d= .ptr a 0 0)(hk:st.hp[a]?=some (.box x))(hv:fZ P t x 0=some v)(hu:st.tm k=u):qx P fn (some (.ret st))=some (.ret (.eT [v,u]) st.hp):=by
 have h1:kM P st (.cell d t)=some v:=by
  simp only[kM,ht,ku,hk,if_true,hv]
 have h2:kM P st (.tmp k)=some u:=by simp only[kM,hu]
 simp only[qx,hr,di,h1,h2,aaL];rfl
def oY{α:Type}(p:α->Bool)(k:Int):List α->Int
 | []=>-1
 |x::xs=>bif p x then k else oY p (k+1) xs
theorem HV{α:Type}(p:α->Bool): ∀(xs:List α)(k:Int),0<=k->(oY p k xs>=0↔xs.any p=true)
 | [],k,_=>by simp[oY]
 |x::xs,k,hk=>by
  have ih:=HV p xs (k+1) (by omega);rw[List.any_cons];unfold oY
  cases h:p x with
  |true=>simp;exact hk
  |false=>simp only[cond_false,Bool.false_or];exact ih
theorem zV{α:Type}(p:α->Bool)(xs:List α)(k:Int)(hk:0<=k):decide (oY p k xs>=0)=xs.any p:=by
 rw[Bool.eq_iff_iff,decide_eq_true_iff];exact HV p xs k hk
end Go.Proofs.YtfepbikckfehlaaGreat
set_option maxHeartbeats 4000000
namespace Go.Proofs.YtfepbikckfehlaaGreat
open Go Go.Am
variable{pr:bW}(hp:cF pr)
set_option maxRecDepth 100000
def iD(w:Int):Int:=if decide (1<=w)&&decide (w<=6)then w else-1
theorem HW(hp:cF pr)(w:Int):dK pr 31 [i64 w] (i64 (iD w)):=by
 have h:=fun ok=>na hp ok w;refine cX hp rfl rfl ?_
 iterate 5
  all_goals(try(conv=>whnf))
  all_goals(first|(refine ae (fun hb=>?_) (fun hb=>?_))|(refine⟨_,h _ _,?_⟩)|skip)
 all_goals exact cu (by first|(simp_all[iD];done)|(simp_all[iD];omega))
def YN:af:=.func (.func 31) [] []
theorem N2(hp:cF pr)(ws:List Int)(xq:ws.length<=1048576): ∀(N:Nat)(p:aA),SizeOf.sizeOf p<=N->p.small->dK pr 30 [p.enc,.sl (ws.map i64),YN] (i64 (cr iD ws p)):=by
 intro N
 induction N with
 |zero=>intro p h;exfalso;cases p;simp at h
 |succ N ih=>
 intro p hs gu;have tN:=HG hp p gu;have sg:=EL hp;have yE:=HW hp;obtain⟨au,n,aD,cells,a,b,aq,agg,c,ao⟩:=p;obtain⟨sc,lf,gS,gE⟩:=eE gu;have eZ: ∀q∈ao,dK pr 30 [q.enc,.sl (ws.map i64),YN] (i64 (cr iD ws q)):=fun q hq=>ih q (by have:=abo hq;simp at hs;omega) (gE q hq);clear ih hs;refine cX hp rfl rfl ?_;conv=>whnf
 refine⟨_,tN _,?_⟩;conv=>whnf
 refine ae (fun g0=>?_) (fun g0=>?_)
 ·have hlen:cU au=ao.length:=by simp only[shaped,aA.au,aA.ao,xz,beq_iff_eq]at g0;exact g0.1
  rcases fU au with rfl|rfl|rfl|rfl|rfl|rfl|rfl|⟨h1,h2,h3,h4,h5,h6,h7⟩
  ·have hw:=fun h0=>yX hp n aD cells a b aq agg c ao ws h0 xq;have hP:cr iD ws (.mk 1 n aD cells a b aq agg c ao)=if ws.isEmpty then-1 else iD (bU (.mk 1 n aD cells a b aq agg c ao) ws):=by rw[cr,if_pos g0];rfl
   rw[hP];conv=>whnf
   refine ae (fun g1=>?_) (fun g1=>?_)
   ·conv=>whnf
    have:ws.isEmpty=true:=by simp at g1;simp[g1]
    exact cu (by rw[this];rfl)
   ·have mD:ws.isEmpty=false:=by simp at g1;simp[g1]
    conv=>whnf
    refine⟨_,sg _,?_⟩;conv=>whnf
    refine⟨_,hw (by simpa using mD) _,?_⟩;conv=>whnf
    refine⟨_,yE _ _,?_⟩;conv=>whnf
    exact cu (by rw[mD];rfl)
  ·match ao,hlen,eZ with
   | [q],_,eZ=>
    have hq:=eZ q (by simp);have hw:=fun w=>yY hp n aD cells a b aq agg c [q] w []
    have hP:cr iD ws (.mk 2 n aD cells a b aq agg c [q])=if cr iD ws q== -1 then-1 else iD (bU (.mk 2 n aD cells a b aq agg c [q]) [cr iD ws q]):=by
     rw[cr,if_pos g0];simp only[ic];cases(cr iD ws q== -1)<;>rfl
    rw[hP];clear eZ hP;generalize cr iD ws q=wq at*;obtain⟨cG,n',dq,bR,a',b',cH,dE,c',cE⟩:=q;conv=>whnf
    refine dh ?_;conv=>whnf
    refine⟨_,rfl,by omega,rfl,?_⟩;conv=>whnf
    refine⟨_,hq _,?_⟩;conv=>whnf
    refine ae (fun g1=>?_) (fun g1=>?_)
    ·conv=>whnf
     exact cu (by rw[g1];rfl)
    ·conv=>whnf
     refine⟨trivial,?_⟩;conv=>whnf
     refine⟨rfl,?_⟩;conv=>whnf
     refine⟨by show 1<=4294967296;omega,?_⟩;conv=>whnf
     refine dh ?_;conv=>whnf
     refine⟨_,sg _,?_⟩;conv=>whnf
     refine⟨_,(hw wq).frozen rfl rfl rfl rfl,?_⟩;conv=>whnf
     refine⟨_,yE _ _,?_⟩;conv=>whnf
     exact cu (by rw[g1];rfl)
   | [],hk,_=>simp[cU]at hk
   |_::_::_,hk,_=>simp[cU]at hk;omega
  ·match ao,hlen,eZ with
   | [q],_,eZ=>
    have hq:=eZ q (by simp);have hw:=fun w=>Dx hp n aD cells a b aq agg c [q] w [] sc
    have hP:cr iD ws (.mk 3 n aD cells a b aq agg c [q])=if cr iD ws q== -1 then-1 else iD (bU (.mk 3 n aD cells a b aq agg c [q]) [cr iD ws q]):=by
     rw[cr,if_pos g0];simp only[ic];cases(cr iD ws q== -1)<;>rfl
    rw[hP];clear eZ hP;generalize cr iD ws q=wq at*;obtain⟨cG,n',dq,bR,a',b',cH,dE,c',cE⟩:=q;conv=>whnf
    refine dh ?_;conv=>whnf
    refine⟨_,rfl,by omega,rfl,?_⟩;conv=>whnf
    refine⟨_,hq _,?_⟩;conv=>whnf
    refine ae (fun g1=>?_) (fun g1=>?_)
    ·conv=>whnf
     exact cu (by rw[g1];rfl)
    ·conv=>whnf
     refine⟨trivial,?_⟩;conv=>whnf
     refine⟨rfl,?_⟩;conv=>whnf
     refine⟨by show 1<=4294967296;omega,?_⟩;conv=>whnf
     refine dh ?_;conv=>whnf
     refine⟨_,sg _,?_⟩;conv=>whnf
     refine⟨_,(hw wq).frozen rfl rfl rfl rfl,?_⟩;conv=>whnf
     refine⟨_,yE _ _,?_⟩;conv=>whnf
     exact cu (by rw[g1];rfl)
   | [],hk,_=>simp[cU]at hk
   |_::_::_,hk,_=>simp[cU]at hk;omega
  ·match ao,hlen,eZ with
   | [q,q2],_,eZ=>
    have hq:=eZ q (by simp);have qD:=eZ q2 (by simp);have hw:=fun w v=>A4 hp n aD cells a b aq agg c [q,q2] w v []
    have hP:cr iD ws (.mk 4 n aD cells a b aq agg c [q,q2])=if cr iD ws q== -1 then-1 else if cr iD ws q2== -1 then-1 else iD (bU (.mk 4 n aD cells a b aq agg c [q,q2]) [cr iD ws q,cr iD ws q2]):=by
     rw[cr,if_pos g0];simp only[ic];cases(cr iD ws q== -1)<;>cases(cr iD ws q2== -1)<;>rfl
    rw[hP];clear eZ hP;generalize cr iD ws q=wq at*;generalize cr iD ws q2=V4 at*;obtain⟨cG,n',dq,bR,a',b',cH,dE,c',cE⟩:=q;obtain⟨oJ,n2,oL,lg,a2,b2,oM,uT,c2,oN⟩:=q2;conv=>whnf
    refine dh ?_;conv=>whnf
    refine⟨_,rfl,by omega,rfl,?_⟩;conv=>whnf
    refine⟨_,hq _,?_⟩;conv=>whnf
    refine ae (fun g1=>?_) (fun g1=>?_)
    ·conv=>whnf
     exact cu (by rw[g1];rfl)
    ·conv=>whnf
     refine⟨trivial,?_⟩;conv=>whnf
     refine⟨rfl,?_⟩;conv=>whnf
     refine⟨by show 1<=4294967296;omega,?_⟩;conv=>whnf
     refine dh ?_;conv=>whnf
     refine⟨_,rfl,by decide,rfl,?_⟩;conv=>whnf
     refine⟨_,qD _,?_⟩;conv=>whnf
     refine ae (fun g2=>?_) (fun g2=>?_)
     ·conv=>whnf
      exact cu (by rw[g1,g2];rfl)
     ·conv=>whnf
      refine⟨trivial,?_⟩;conv=>whnf
      refine⟨rfl,?_⟩;conv=>whnf
      refine⟨rfl,rfl,by show 1<=1;omega,?_⟩;conv=>whnf
      refine⟨by show 1+1<=4294967296;omega,?_⟩;conv=>whnf
      refine dh ?_;conv=>whnf
      refine⟨_,sg _,?_⟩;conv=>whnf
      refine⟨_,(hw wq V4).frozen rfl rfl rfl rfl,?_⟩;conv=>whnf
      refine⟨_,yE _ _,?_⟩;conv=>whnf
      exact cu (by rw[g1,g2];rfl)
   | [],hk,_=>simp[cU]at hk
   | [_],hk,_=>simp[cU]at hk
   |_::_::_::_,hk,_=>simp[cU]at hk;omega
  ·match ao,hlen,eZ with
   | [q,q2],_,eZ=>
    have hq:=eZ q (by simp);have qD:=eZ q2 (by simp);have hw:=fun w v=>A5 hp n aD cells a b aq agg c [q,q2] w v []
    have hP:cr iD ws (.mk 5 n aD cells a b aq agg c [q,q2])=if cr iD ws q== -1 then-1 else if cr iD ws q2== -1 then-1 else iD (bU (.mk 5 n aD cells a b aq agg c [q,q2]) [cr iD ws q,cr iD ws q2]):=by
     rw[cr,if_pos g0];simp only[ic];cases(cr iD ws q== -1)<;>cases(cr iD ws q2== -1)<;>rfl
    rw[hP];clear eZ hP;generalize cr iD ws q=wq at*;generalize cr iD ws q2=V4 at*;obtain⟨cG,n',dq,bR,a',b',cH,dE,c',cE⟩:=q;obtain⟨oJ,n2,oL,lg,a2,b2,oM,uT,c2,oN⟩:=q2;conv=>whnf
    refine dh ?_;conv=>whnf
    refine⟨_,rfl,by omega,rfl,?_⟩;conv=>whnf
    refine⟨_,hq _,?_⟩;conv=>whnf
    refine ae (fun g1=>?_) (fun g1=>?_)
    ·conv=>whnf
     exact cu (by rw[g1];rfl)
    ·conv=>whnf
     refine⟨trivial,?_⟩;conv=>whnf
     refine⟨rfl,?_⟩;conv=>whnf
     refine⟨by show 1<=4294967296;omega,?_⟩;conv=>whnf
     refine dh ?_;conv=>whnf
     refine⟨_,rfl,by decide,rfl,?_⟩;conv=>whnf
     refine⟨_,qD _,?_⟩;conv=>whnf
     refine ae (fun g2=>?_) (fun g2=>?_)
     ·conv=>whnf
      exact cu (by rw[g1,g2];rfl)
     ·conv=>whnf
      refine⟨trivial,?_⟩;conv=>whnf
      refine⟨rfl,?_⟩;conv=>whnf
      refine⟨rfl,rfl,by show 1<=1;omega,?_⟩;conv=>whnf
      refine⟨by show 1+1<=4294967296;omega,?_⟩;conv=>whnf
      refine dh ?_;conv=>whnf
      refine⟨_,sg _,?_⟩;conv=>whnf
      refine⟨_,(hw wq V4).frozen rfl rfl rfl rfl,?_⟩;conv=>whnf
      refine⟨_,yE _ _,?_⟩;conv=>whnf
      exact cu (by rw[g1,g2];rfl)
   | [],hk,_=>simp[cU]at hk
   | [_],hk,_=>simp[cU]at hk
   |_::_::_::_,hk,_=>simp[cU]at hk;omega
  ·match ao,hlen,eZ with
   | [q],_,eZ=>
    have hq:=eZ q (by simp);have hw:=fun w=>A6 hp n aD cells a b aq agg c [q] w []
    have hP:cr iD ws (.mk 6 n aD cells a b aq agg c [q])=if cr iD ws q== -1 then-1 else iD (bU (.mk 6 n aD cells a b aq agg c [q]) [cr iD ws q]):=by
     rw[cr,if_pos g0];simp only[ic];cases(cr iD ws q== -1)<;>rfl
    rw[hP];clear eZ hP;generalize cr iD ws q=wq at*;obtain⟨cG,n',dq,bR,a',b',cH,dE,c',cE⟩:=q;conv=>whnf
    refine dh ?_;conv=>whnf
    refine⟨_,rfl,by omega,rfl,?_⟩;conv=>whnf
    refine⟨_,hq _,?_⟩;conv=>whnf
    refine ae (fun g1=>?_) (fun g1=>?_)
    ·conv=>whnf
     exact cu (by rw[g1];rfl)
    ·conv=>whnf
     refine⟨trivial,?_⟩;conv=>whnf
     refine⟨rfl,?_⟩;conv=>whnf
     refine⟨by show 1<=4294967296;omega,?_⟩;conv=>whnf
     refine dh ?_;conv=>whnf
     refine⟨_,sg _,?_⟩;conv=>whnf
     refine⟨_,(hw wq).frozen rfl rfl rfl rfl,?_⟩;conv=>whnf
     refine⟨_,yE _ _,?_⟩;conv=>whnf
     exact cu (by rw[g1];rfl)
   | [],hk,_=>simp[cU]at hk
   |_::_::_,hk,_=>simp[cU]at hk;omega
  ·match ao,hlen,eZ with
   | [q],_,eZ=>
    have hq:=eZ q (by simp);have hw:=fun w=>yZ hp n aD cells a b aq agg c [q] w [] lf
    have hP:cr iD ws (.mk 7 n aD cells a b aq agg c [q])=if cr iD ws q== -1 then-1 else iD (bU (.mk 7 n aD cells a b aq agg c [q]) [cr iD ws q]):=by
     rw[cr,if_pos g0];simp only[ic];cases(cr iD ws q== -1)<;>rfl
    rw[hP];clear eZ hP;generalize cr iD ws q=wq at*;obtain⟨cG,n',dq,bR,a',b',cH,dE,c',cE⟩:=q;conv=>whnf
    refine dh ?_;conv=>whnf
    refine⟨_,rfl,by omega,rfl,?_⟩;conv=>whnf
    refine⟨_,hq _,?_⟩;conv=>whnf
    refine ae (fun g1=>?_) (fun g1=>?_)
    ·conv=>whnf
     exact cu (by rw[g1];rfl)
    ·conv=>whnf
     refine⟨trivial,?_⟩;conv=>whnf
     refine⟨rfl,?_⟩;conv=>whnf
     refine⟨by show 1<=4294967296;omega,?_⟩;conv=>whnf
     refine dh ?_;conv=>whnf
     refine⟨_,sg _,?_⟩;conv=>whnf
     refine⟨_,(hw wq).frozen rfl rfl rfl rfl,?_⟩;conv=>whnf
     refine⟨_,yE _ _,?_⟩;conv=>whnf
     exact cu (by rw[g1];rfl)
   | [],hk,_=>simp[cU]at hk
   |_::_::_,hk,_=>simp[cU]at hk;omega
  ·exfalso;simp only[beq_eq_false_iff_ne,ne_eq]at*;simp[cU,h1,h2,h3,h4,h5,h6,h7]at hlen
   try omega
 ·conv=>whnf
  exact cu (by rw[cr,if_neg (by rw[g0];simp)])
def iQ(p:aA)(ws:List Int):Int:=if decide (ws.length<=3)&&lW p then cr iD ws p else-1
theorem HX(hs:DE pr)(p:aA)(ws:List Int)(gu:p.small)(hl:ws.length<=1048576):dK pr 10 [p.enc,.sl (ws.map i64)] (i64 (iQ p ws)):=by
 have h1:=hs.size p gu;have h2:=N2 hs.tocF ws hl _ p (aah _) gu;unfold iQ;obtain⟨au,n,aD,cells,a,b,aq,agg,c,ao⟩:=p;refine ff hs.tocF rfl rfl ?_;have S:=aj.nil [];conv=>whnf
 intro k1 a1 eg er;replace S:=S.alloc eg er;conv=>whnf
 refine ae (fun g1=>?_) (fun g1=>?_)
 ·have:decide (ws.length<=3)=false:=by simp at g1⊢;omega
  rw[this];conv=>whnf
  exact eJ rfl
 ·have:decide (ws.length<=3)=true:=by simp at g1⊢;omega
  rw[this,aay];refine aC (S.row 0 rfl) ?_;conv=>whnf
  refine⟨_,h1 _,?_⟩;conv=>whnf
  refine ae (fun g2=>?_) (fun g2=>?_)
  ·rw[g2];refine aC (S.row 0 rfl) ?_;conv=>whnf
   refine⟨_,h2 _,?_⟩;conv=>whnf
   exact eJ rfl
  ·rw[g2];conv=>whnf
   exact eJ rfl
end Go.Proofs.YtfepbikckfehlaaGreat

/- Am's evaluation as a predicate transformer that Lean's own reduction carries out: what must be told by hand stands as a conjunct. -/
import Derived.Test.YtfepbikckfehlaaGreatGSBmA
set_option linter.unusedVariables false
set_option linter.unusedSimpArgs false
set_option maxHeartbeats 4000000
namespace Go.Am
open Go
def qa(t:Bool)(A B:Prop):Prop:=@Bool.rec (fun _=>Prop) B A t
theorem ae{t:Bool}{A B:Prop}(ha:t=true->A)(hb:t=false->B):qa t A B:=by cases t with|true=>exact ha rfl|false=>exact hb rfl
theorem eZ{t:Bool}{A B:Prop}(h:t=true)(ha:A):qa t A B:=by subst h;exact ha
theorem bf{t:Bool}{A B:Prop}(h:t=false)(hb:B):qa t A B:=by subst h;exact hb
theorem eP{t:Bool}{A B:Prop}(h:qa t A B):(t=true/\A)∨(t=false/\B):=by cases t with|true=>exact .inl ⟨rfl,h⟩|false=>exact .inr ⟨rfl,h⟩
def Ox(v:af)(K:af->Prop):Prop:=match v with
 | .bool t=>qa t (K (.bool true)) (K (.bool false))
 | .agg cs=>K (.agg cs)
 | .dX vs=>K (.dX vs)
 | .int k n=>K (.int k n)
 | .str s=>K (.str s)
 | .nil=>K .nil
 | .sl xs=>K (.sl xs)
 | .eY xs i off=>K (.eY xs i off)
 | .qZ=>K .qZ
 | .pN=>K .pN
 | .x9=>K .x9
 | .pO=>K .pO
 | .own id st len=>K (.own id st len)
 | .ptr id i off=>K (.ptr id i off)
 | .map id=>K (.map id)
 | .mQ ks vs=>K (.mQ ks vs)
 | .it id=>K (.it id)
 | .func fn a b=>K (.func fn a b)
 | .iface t v=>K (.iface t v)
 | .gv g t=>K (.gv g t)
theorem iT{v:af}{K:af->Prop}(h:Ox v K):K v:=by
 cases v
 case bool t=>
  rcases eP h with⟨rfl,h⟩|⟨rfl,h⟩<;>exact h
 all_goals exact h
def qc{α:Type}:List α->(List α->Prop)->Prop
 | [],K=>K []
 |x::xs,K=>qc xs fun ys=>K (x::ys)
theorem lK{α:Type}: ∀{l:List α}{K:List α->Prop},qc l K->K l
 | [],_,h=>h
 |x::xs,_,h=>lK (l:=xs) h
def jj(v:af)(K:af->Prop):Prop:=match v with
 | .agg cs=>qc cs fun cs=>K (.agg cs)
 | .bool b=>K (.bool b)
 | .dX vs=>qc vs fun vs=>K (.dX vs)
 | .int k n=>K (.int k n)
 | .str s=>K (.str s)
 | .nil=>K .nil
 | .sl xs=>K (.sl xs)
 | .eY xs i off=>K (.eY xs i off)
 | .qZ=>K .qZ
 | .pN=>K .pN
 | .x9=>K .x9
 | .pO=>K .pO
 | .own id st len=>K (.own id st len)
 | .ptr id i off=>K (.ptr id i off)
 | .map id=>K (.map id)
 | .mQ ks vs=>K (.mQ ks vs)
 | .it id=>K (.it id)
 | .func fn a b=>K (.func fn a b)
 | .iface t v=>K (.iface t v)
 | .gv g t=>K (.gv g t)
theorem fE{v:af}{K:af->Prop}(h:jj v K):K v:=by
 cases v
 case agg cs=>exact lK (K:=fun cs=>K (.agg cs)) h
 case dX cs=>exact lK (K:=fun cs=>K (.dX cs)) h
 all_goals exact h
def mF:List af->(List af->Prop)->Prop
 | [],K=>K []
 |x::xs,K=>jj x fun x=>mF xs fun ys=>K (x::ys)
theorem ic: ∀{l:List af}{K:List af->Prop},mF l K->K l
 | [],_,h=>h
 |x::xs,K,h=>by
  have h1:=fE (K:=fun x=>mF xs fun ys=>K (x::ys)) h;exact ic (l:=xs) (K:=fun ys=>K (x::ys)) h1
def zr:Nat->(Nat->Prop)->Prop
 |0,K=>K 0
 |n+1,K=>zr n fun m=>K (m+1)
theorem oe: ∀{n:Nat}{K:Nat->Prop},zr n K->K n
 |0,_,h=>h
 |n+1,K,h=>oe (n:=n) (K:=fun m=>K (m+1)) h
def uC(v:af)(K:af->Prop):Prop:=match v with
 | .ptr id i off=>zr id fun id=>K (.ptr id i off)
 | .own id st len=>zr id fun id=>K (.own id st len)
 | .map id=>zr id fun id=>K (.map id)
 |v=>K v
theorem CZ{v:af}{K:af->Prop}(h:uC v K):K v:=by
 unfold uC at h;split at h
 ·exact oe (K:=fun id=>K (.ptr id _ _)) h
 ·exact oe (K:=fun id=>K (.own id _ _)) h
 ·exact oe (K:=fun id=>K (.map id)) h
 ·exact h
def l9(tm:Nat->af)(dst:Option Nat)(v:af)(K:(Nat->af)->Prop):Prop:=match dst with
 |some d=>K (eU tm d v)
 |none=>K tm
theorem iL{tm:Nat->af}{dst:Option Nat}{v:af}{K:(Nat->af)->Prop}(h:l9 tm dst v K):K (iN tm dst v):=by cases dst<;>exact h
def vV(P:Program)(op:BinOp)(t:TypeId)(xo yo:Operand)(a b:af)(K:af->Prop):Prop:=match yJ P op t xo yo a b with
 |some v=>Ox v K
 |none=>False
def Vw(P:Program)(t:TypeId):Option (List FK):=match P.underlying t,TD P t with
 |some (.struct _),some ks=>some ks
 |_,_=>none
def Oy(P:Program)(op:BinOp)(t:TypeId)(xo yo:Operand)(a b:af)(K:af->Prop):Prop:=match op with
 | .add=>match a with
  | .str x=>match b with
   | .str y=>x.size+y.size<=br/\K (.str (x++y))
   |_=>False
  |a=>vV P .add t xo yo a b K
 | .quo=>match a with
  | .int k x=>match b with
   | .int k' y=>k=k'/\y≠0/\K (.int k (k.wrap (x.tdiv y)))
   |_=>False
  |_=>False
 | .rem=>match a with
  | .int k x=>match b with
   | .int k' y=>k=k'/\y≠0/\K (.int k (x.tmod y))
   |_=>False
  |_=>False
 | .eql=>match a with
  | .agg xs=>match b with
   | .agg ys=>∃ks r,Vw P t=some ks/\ez ks xs ys=some r/\qa r (K (.bool true)) (K (.bool false))
   |_=>False
  |a=>vV P .eql t xo yo a b K
 | .neq=>match a with
  | .agg xs=>match b with
   | .agg ys=>∃ks r,Vw P t=some ks/\ez ks xs ys=some r/\qa r (K (.bool false)) (K (.bool true))
   |_=>False
  |a=>vV P .neq t xo yo a b K
 |op=>vV P op t xo yo a b K
theorem og{P:Program}{op:BinOp}{t:TypeId}{xo yo:Operand}{a b:af}{K:af->Prop}(h:vV P op t xo yo a b K): ∃v,yJ P op t xo yo a b=some v/\K v:=by
 unfold vV at h;split at h
 ·rename_i v hv;exact⟨v,hv,iT h⟩
 ·exact h.elim
theorem IB{P:Program}{op:BinOp}{t:TypeId}{xo yo:Operand}{a b:af}{K:af->Prop}(h:Oy P op t xo yo a b K): ∃v,yJ P op t xo yo a b=some v/\K v:=by
 unfold Oy at h;split at h
 ·split at h
  ·split at h
   ·obtain⟨h1,h2⟩:=h;exact⟨_,by simp only[yJ,QM];rw[if_pos h1],h2⟩
   ·exact h.elim
  ·exact og h
 ·split at h
  ·split at h
   ·obtain⟨rfl,h1,h2⟩:=h;exact⟨_,by simp only[yJ,if_true,NA];rw[if_neg h1],h2⟩
   ·exact h.elim
  ·exact h.elim
 ·split at h
  ·split at h
   ·obtain⟨rfl,h1,h2⟩:=h;exact⟨_,by simp only[yJ,if_true,NA];rw[if_neg h1],h2⟩
   ·exact h.elim
  ·exact h.elim
 ·split at h
  ·rename_i xs;split at h
   ·rename_i ys;obtain⟨ks,r,h1,h2,h3⟩:=h
    have h4:Sz P t (.agg xs) (.agg ys)=some r:=by
     unfold Vw at h1;unfold Sz;split at h1
     ·rename_i fs pc hu hk;cases h1
      simp only[hu,hk,h2]
     ·cases h1
    refine⟨.bool r,by simp only[yJ,vH,h4];rfl,?_⟩;rcases eP h3 with⟨rfl,h3⟩|⟨rfl,h3⟩<;>exact h3
   ·exact h.elim
  ·exact og h
 ·split at h
  ·rename_i xs;split at h
   ·rename_i ys;obtain⟨ks,r,h1,h2,h3⟩:=h
    have h4:Sz P t (.agg xs) (.agg ys)=some r:=by
     unfold Vw at h1;unfold Sz;split at h1
     ·rename_i fs pc hu hk;cases h1
      simp only[hu,hk,h2]
     ·cases h1
    refine⟨.bool (!r),by simp only[yJ,vH,h4];rfl,?_⟩;rcases eP h3 with⟨rfl,h3⟩|⟨rfl,h3⟩<;>exact h3
   ·exact h.elim
  ·exact og h
 ·exact og h
def C4(P:Program)(kt:TypeId)(k:af):List af->List af->(Option af->Prop)->Prop
 | [],_,K=>K none
 |x::xs,v::vs,K=>match Eh P kt k x with
  |some b=>qa b (K (some v)) (C4 P kt k xs vs K)
  |none=>False
 |_::_,[],_=>False
theorem E7{P:Program}{kt:TypeId}{k:af}: ∀(ks vs:List af)(n:Nat)(K:Option af->Prop),C4 P kt k ks vs K->(∃i v,nZ P kt k ks n=some (some (n+i))/\vs[i]?=some v/\K (some v))∨(nZ P kt k ks n=some none/\K none):=by
 intro ks
 induction ks with
 |nil=>intro vs n K h;exact .inr ⟨rfl,h⟩
 |cons x xs ih=>
  intro vs n K h
  cases vs with
  |nil=>exact h.elim
  |cons v vs=>
   simp only[C4]at h;split at h
   ·rename_i b hb;rcases eP h with⟨rfl,h⟩|⟨rfl,h⟩
    ·exact .inl ⟨0,v,by simp[nZ,hb],rfl,h⟩
    ·rcases ih vs (n+1) K h with⟨i,v',h1,h2,h3⟩|⟨h1,h2⟩
     ·exact .inl ⟨i+1,v',by simp only[nZ,hb,h1];congr 2;omega,by simpa using h2,h3⟩
     ·exact .inr ⟨by simp[nZ,hb,h1],h2⟩
   ·exact h.elim
def Ri(cf:dS)(tm:Nat->af)(h:aC)(o:Op)(K:af->aC->Prop):Prop:=
 match o with
 | .indexAddr t x i=>match ev cf.G tm x,ev cf.G tm i with
  |some (.sl xs),some (.int _ i)=>match kT cf.P t with
   |some (_,sz)=>∃y,xs[i.toNat]?=some y/\0<=i/\y.cells.length=sz/\K (.eY [y] 0 0) h
   |none=>False
  |some (.own id st len),some (.int _ i)=>match kT cf.P t,h[id]? with
   |some (_,sz),some (.arr iz _)=>(0<=i/\i<len)/\iz=sz/\K (.ptr id (st+i.toNat) 0) h
   |_,_=>False
  |some x,some (.int _ i)=>match tZ cf.P t x i h with
   |some v=>K v h
   |none=>False
  |_,_=>False
 | .load t a=>match ev cf.G tm a with
  |some (.ptr id i off)=>match h[id]? with
   |some (.box x)=>match Nat.decEq i 0,ff cf.P t x off with
    |isTrue _,some v=>Ox v (K · h)
    |_,_=>False
   |some (.arr _ es)=>∃x,es[i]?=some x/\match ff cf.P t x off with
    |some v=>Ox v (K · h)
    |none=>False
   |_=>False
  |some (.eY xs i off)=>match xs[i]? with
   |some x=>match ff cf.P t x off with
    |some v=>Ox v (K · h)
    |none=>False
   |none=>False
  |_=>False
 | .binOp op t x y _=>match ev cf.G tm x,ev cf.G tm y with
  |some a,some b=>Oy cf.P op t x y a b (K · h)
  |_,_=>False
 | .store t a v=>match ev cf.G tm a,ev cf.G tm v,TB cf.P t with
  |some (.ptr id i off),some v,some (_,s)=>match Nat.decEq v.cells.length s,v.cells.all af.bE with
   |isTrue _,true=>match h[id]? with
    |some (.box x)=>match Nat.decEq i 0,yG x off v.cells with
     |isTrue _,some x'=>jj x' fun x'=>K (.dX []) (h.set id (.box x'))
     |_,_=>False
    |some (.arr sz es)=>∃x,es[i]?=some x/\match yG x off v.cells with
     |some x'=>K (.dX []) (h.set id (.arr sz (es.set i x')))
     |none=>False
    |_=>False
   |_,_=>False
  |_,_,_=>False
 | .lookup t m k ok=>match ev cf.G tm m,ev cf.G tm k,ND cf.P t with
  |some (.mQ ks vs),some k,some (kt,et)=>match isKey cf.P kt k,jo cf.P et with
   |true,some z=>C4 cf.P kt k ks vs fun r=>match r with
    |some v=>match ok with
     |true=>K (.dX [v,.bool true]) h
     |false=>K v h
    |none=>match ok with
     |true=>K (.dX [z,.bool false]) h
     |false=>K z h
   |_,_=>False
  |some m,some k,some _=>match wZ cf.P t m k ok h with
   |some v=>K v h
   |none=>False
  |_,_,_=>False
 | .makeSlice t l c=>match ev cf.G tm l,ev cf.G tm c,kT cf.P t with
  |some (.int _ l),some (.int _ c),some (e,sz)=>(0<=l/\l<=c/\c<=(br:Int))/\match jo cf.P e with
   |some z=>match Nat.decEq z.cells.length sz with
    |isTrue _=>K (.own h.length 0 l.toNat) (h++[.arr sz (List.replicate c.toNat z)])
    |isFalse _=>False
   |none=>False
  |_,_,_=>False
 | .buildSlice t n ps=>match kT cf.P t,cp (fun p=>(ev cf.G tm p.2).map fun v=>(p.1,v)) ps.toList,decide (n<=4096)with
  |some (et,sz),some vs,true=>match decide (sz<=4096),jo cf.P et with
   |true,some z=>match Nat.decEq z.cells.length sz,jr (List.replicate n z) sz vs with
    |isTrue _,some es=>match n with
     |0=>K .nil h
     |_+1=>mF es fun es=>K (nP h sz es).1 (nP h sz es).2
    |_,_=>False
   |_,_=>False
  |_,_,_=>False
 | .slice t x lo hi none=>match ev cf.G tm x,t9 cf.G tm lo,t9 cf.G tm hi with
  |some (.str s),some lo,some hi=>match cf.P.underlying t with
   |some .string=>(0<=lo.getD 0/\lo.getD 0<=hi.getD s.size/\hi.getD s.size<=s.size)/\K (.str (s.extract (lo.getD 0).toNat (hi.getD s.size).toNat)) h
   |_=>False
  |some (.sl xs),some lo,some hi=>match kT cf.P t with
   |some (_,sz)=>(0<=lo.getD 0/\lo.getD 0<=hi.getD xs.length/\hi.getD xs.length<=xs.length/\xs.all (fun y=>y.cells.length==sz)=true)/\K (.sl ((xs.drop (lo.getD 0).toNat).take ((hi.getD xs.length).toNat-(lo.getD 0).toNat))) h
   |none=>False
  |some (.own id st len),some lo,some hi=>match kT cf.P t,h[id]? with
   |some (_,sz),some (.arr iz es)=>(0<=lo.getD 0/\lo.getD 0<=hi.getD len/\hi.getD len<=len/\iz=sz)/\K (.own id (st+(lo.getD 0).toNat) ((hi.getD len).toNat-(lo.getD 0).toNat)) h
   |_,_=>False
  |some (.nil),some lo,some hi=>match kT cf.P t with
   |some _=>(lo.getD 0=0/\hi.getD 0=0)/\K .nil h
   |none=>False
  |_,_,_=>False
 | .index t x i=>match ev cf.G tm x,ev cf.G tm i with
  |some (.str s),some (.int _ i)=>match cf.P.underlying t with
   |some .string=>∃b,s[i.toNat]?=some b/\0<=i/\K (.int .u8 b.toNat) h
   |_=>False
  |some (.agg cs),some (.int _ i)=>match Lo cf.P t with
   |some (n,e,sz)=>(0<=i/\i<n)/\ ∃v,ff cf.P e (.agg cs) (i.toNat*sz)=some v/\Ox v (K · h)
   |none=>False
  |_,_=>False
 | .pick c a b=>match ev cf.G tm c,ev cf.G tm a,ev cf.G tm b with
  |some (.bool t),some x,some y=>qa t (K x h) (K y h)
  |_,_,_=>False
 | .call {callee:=.builtin .append,args,argTypes}=>match cp (ev cf.G tm) args.toList,argTypes[0]?,(argTypes[1]?).bind cf.P.underlying with
  |some [s,x],some t,some d=>(match d with| .slice _=>True| .string=>True|_=>False)/\match kT cf.P t,kh h x with
   |some (_,sz),some ys=>(ys.all (hU sz))=true/\match s with
    | .nil=>qa ys.isEmpty (K .nil h) (ys.length<=br/\K (nP h sz ys).1 (nP h sz ys).2)
    | .own id st len=>match h[id]? with
     |some (.arr iz es)=>st=0/\iz=sz/\len<=es.length/\
      qa ys.isEmpty (K (.own id 0 len) (h.set id (.arr iz (es.take len)))) (len+ys.length<=br/\K (nP (h.set id .dead) sz (es.take len++ys)).1 (nP (h.set id .dead) sz (es.take len++ys)).2)
     |_=>False
    |_=>False
   |_,_=>False
  |_,_,_=>False
 |o=>match aT cf tm h o with
  |some (.val v h')=>K v h'
  |_=>False
def rB:Op->Bool
 | .call {callee:=.builtin _,..}=>false
 | .call _=>true
 | .panic _=>true
 |_=>false
def Ua(cf:dS)(tm:Nat->af)(h:aC)(o:Op)(K:af->aC->Prop):Prop:=
 match o with
 | .load t a=>match ev cf.G tm a with
  |some (.ptr id i off)=>∃x,h[id]?=some (.box x)/\i=0/\match ff cf.P t x off with
   |some v=>Ox v (K · h)
   |none=>False
  |_=>Ri cf tm h (.load t a) K
 | .store t a v=>match ev cf.G tm a,ev cf.G tm v,TB cf.P t with
  |some (.ptr id i off),some v,some (_,s)=>match Nat.decEq v.cells.length s,v.cells.all af.bE with
   |isTrue _,true=>∃x,h[id]?=some (.box x)/\i=0/\match yG x off v.cells with
    |some x'=>jj x' fun x'=>∀h',h'=h.set id (.box x')->K (.dX []) h'
    |none=>False
   |_,_=>False
  |_,_,_=>False
 | .alloc t=>match jo cf.P t with
  |some z=>∀k h',k=h.length->h'=h++[.box z]->K (.ptr k 0 0) h'
  |none=>False
 | .box t x=>match ev cf.G tm x with
  |some z=>∀k h',k=h.length->h'=h++[.box z]->K (.ptr k 0 0) h'
  |none=>False
 |o=>Ri cf tm h o K
def Y7(h:aC)(id i:Nat)(R:(af->cJ)->af->Prop):Prop:=
 (∃x,h[id]?=some (.box x)/\i=0/\R (fun x=>.box x) x)∨(∃sz es x,h[id]?=some (.arr sz es)/\es[i]?=some x/\R (fun x=>.arr sz (es.set i x)) x)
def Oz(P:Program)(t:TypeId)(off:Nat)(K:af->Prop)(x:af):Prop:=match ff P t x off with
 |some v=>Ox v K
 |none=>False
def IC(off:Nat)(cs:List af)(K:af->Prop)(x:af):Prop:=match yG x off cs with
 |some x'=>jj x' K
 |none=>False
def ID(h:aC)(sz:Nat)(s:af)(ys:List af)(K:af->aC->Prop):Prop:=match s with
 | .nil=>(ys=[]/\K .nil h)∨(ys≠[]/\ys.length<=br/\ ∀k h',k=h.length->h'=h++[.arr sz ys]->K (.own k 0 ys.length) h')
 | .own id st len=>∃es,h[id]?=some (.arr sz es)/\st=0/\len<=es.length/\
   ((ys=[]/\ ∀h',h'=h.set id (.arr sz (es.take len))->K (.own id 0 len) h')∨(ys≠[]/\len+ys.length<=br/\ ∀k h',k=h.length->h'=h.set id .dead++[.arr sz (es.take len++ys)]->K (.own k 0 (es.take len++ys).length) h'))
 |_=>False
def LU(cf:dS)(tm:Nat->af)(h:aC)(o:Op)(K:af->aC->Prop):Prop:=
 match o with
 | .load t a=>match ev cf.G tm a with
  |some (.ptr id i off)=>Y7 h id i fun _ x=>Oz cf.P t off (K · h) x
  |_=>Ri cf tm h (.load t a) K
 | .store t a v=>match ev cf.G tm a,ev cf.G tm v,TB cf.P t with
  |some (.ptr id i off),some v,some (_,s)=>∃cs,v.cells=cs/\cs.length=s/\cs.all af.bE=true/\Y7 h id i fun f x=>IC off cs (fun x'=>∀h',h'=h.set id (f x')->K (.dX []) h') x
  |_,_,_=>False
 | .alloc t=>match jo cf.P t with
  |some z=>∀k h',k=h.length->h'=h++[.box z]->K (.ptr k 0 0) h'
  |none=>False
 | .box t x=>match ev cf.G tm x with
  |some z=>∀k h',k=h.length->h'=h++[.box z]->K (.ptr k 0 0) h'
  |none=>False
 | .indexAddr t x i=>match ev cf.G tm x,ev cf.G tm i with
  |some (.own id st len),some (.int _ i)=>match kT cf.P t with
   |some (_,sz)=>∃es,h[id]?=some (.arr sz es)/\(0<=i/\i<len)/\K (.ptr id (st+i.toNat) 0) h
   |none=>False
  |_,_=>Ri cf tm h (.indexAddr t x i) K
 | .makeSlice t l c=>match ev cf.G tm l,ev cf.G tm c,kT cf.P t with
  |some (.int _ l),some (.int _ c),some (e,sz)=>(0<=l/\l<=c/\c<=(br:Int))/\match jo cf.P e with
   |some z=>match Nat.decEq z.cells.length sz with
    |isTrue _=>∀k h',k=h.length->h'=h++[.arr sz (List.replicate c.toNat z)]->K (.own k 0 l.toNat) h'
    |isFalse _=>False
   |none=>False
  |_,_,_=>False
 | .buildSlice t n ps=>match kT cf.P t,cp (fun p=>(ev cf.G tm p.2).map fun v=>(p.1,v)) ps.toList,decide (n<=4096)with
  |some (et,sz),some vs,true=>match decide (sz<=4096),jo cf.P et with
   |true,some z=>match Nat.decEq z.cells.length sz,jr (List.replicate n z) sz vs with
    |isTrue _,some es=>match n with
     |0=>K .nil h
     |_+1=>mF es fun es=>∀k h',k=h.length->h'=h++[.arr sz es]->K (.own k 0 es.length) h'
    |_,_=>False
   |_,_=>False
  |_,_,_=>False
 | .call {callee:=.builtin .append,args,argTypes}=>match cp (ev cf.G tm) args.toList,argTypes[0]?,(argTypes[1]?).bind cf.P.underlying with
  |some [s,x],some t,some d=>(match d with| .slice _=>True| .string=>True|_=>False)/\match kT cf.P t with
   |some (_,sz)=>∃ys,kh h x=some ys/\(ys.all (hU sz))=true/\ID h sz s ys K
   |_=>False
  |_,_,_=>False
 |o=>Ri cf tm h o K
def wpC(r:dz)(K:af->aC->Prop)(Q:Out->Prop):Prop:=match r with
 | .ret v h=>Ox v (K · h)
 | .iK v h=>Q (.iK v h)
def OA(y:Bool)(l:List af)(K:List af->Prop):Prop:=match y with
 |true=>K l
 |false=>mF l K
theorem E8{y:Bool}{l:List af}{K:List af->Prop}(h:OA y l K):K l:=by
 cases y with
 |true=>exact h
 |false=>exact ic h
def X0(cf:dS)(y d:Bool)(o:Oper)(tm:Nat->af)(hp:aC)(K:(Nat->af)->aC->Prop)(Q:Out->Prop):Prop:=
 match rB o.op with
 |true=>match aT cf tm hp o.op with
  |some (.call f args)=>match d&&(ya o.op&& !re (cf.M f))with
   |true=>False
   |false=>OA y args fun args=>∃r,bN cf (call cf) f args hp=some r/\wpC r (fun v h=>jj v fun v=>l9 tm o.dst v fun tm=>K tm h) Q
  |some (.iK v)=>Q (.iK v hp)
  |_=>False
 |false=>match y with
  |true=>LU cf tm hp o.op fun v h=>jj v fun v=>l9 tm o.dst v fun tm=>K tm h
  |false=>match jD o.op with
   |true=>Ri cf tm hp o.op fun v h=>jj v fun v=>l9 tm o.dst v fun tm=>K tm h
   |false=>Ri cf tm hp o.op fun v h=>jj v fun v=>uC v fun v=>qc h fun h=>l9 tm o.dst v fun tm=>K tm h
def BU(cf:dS)(d:Bool)(ops:Array Oper)(o:Oper)(n:Nat)(K:(Nat->af)->aC->Prop)(tm:Nat->af)(hp:aC):Prop:=match d&&vI cf.M o.op with
 |false=>K tm hp
 |true=>match l7 (((lI ops.toList [])[ops.size-n-1]?).getD 0) (ops.toList.take (ops.size-n-1)) 0 with
  |false=>K tm hp
  |true=>md cf ⟨tm,hp⟩ (((lI ops.toList [])[ops.size-n-1]?).getD 0) (ops.toList.take (ops.size-n-1)) 0/\K tm hp
def Ub(cf:dS)(y d:Bool)(ops:Array Oper)(Q:Out->Prop):List Oper->(Nat->af)->aC->Prop
 | [],tm,hp=>Q (.norm ⟨tm,hp⟩)
 |o::rest,tm,hp=>match dP ops o tm with
  |none=>X0 cf y d o tm hp (BU cf d ops o rest.length (Ub cf y d ops Q rest)) Q
  |some t=>qa t (X0 cf y d o tm hp (BU cf d ops o rest.length (Ub cf y d ops Q rest)) Q) (l9 tm o.dst (.dX []) fun tm=>Ub cf y d ops Q rest tm hp)
def OB(pm:Nat->Nat->Nat->Option (List Nat))(id:Nat)(ops:Array Oper)(d:Bool)(K:Array Oper->Prop):Prop:=match d with
 |false=>K ops
 |true=>match pm id ops.size (((ops[0]?).bind (·.dst)).getD 0)with
  |some p=>K (nY p ops)
  |none=>K ops
theorem vW{pm:Nat->Nat->Nat->Option (List Nat)}{id:Nat}{ops:Array Oper}{d:Bool}{K:Array Oper->Prop}(h:OB pm id ops d K):K (J4 pm id ops d):=by
 unfold OB at h;unfold J4
 cases d with
 |false=>exact h
 |true=>
  simp only at h⊢;split at h
  ·rename_i p hp;simp only[hp];exact h
  ·rename_i hp;simp only[hp];exact h
def zu(cf:dS)(y:Bool):Code->(Out->Prop)->St->Prop
 | .skip,Q,st=>Q (.norm st)
 | .region id ops d,Q,st=>match st with
  |⟨tm,hp⟩=>OB cf.pm id ops d fun ops=>Ub cf y d ops (fun o=>match d,o with
   |true,.norm st=>Q (.norm st)
   |true,_=>False
   |false,o=>Q o) ops.toList tm hp
 | .seq a b,Q,st=>zu cf y a (fun o=>match o with
  | .norm d8=>zu cf y b Q d8
  |o=>Q o) st
 | .cond c a b,Q,st=>match ev cf.G st.tm c with
  |some (.bool t)=>qa t (zu cf y a Q st) (zu cf y b Q st)
  |_=>False
 | .block id c,Q,st=>zu cf y c (fun o=>match o with
  | .exit j d8=>match Nat.decEq j id with
   |isTrue _=>Q (.norm d8)
   |isFalse _=>Q (.exit j d8)
  |o=>Q o) st
 | .loop c,Q,st=>∃o,gY cf c st=some o/\Q o
 | .exit id,Q,st=>Q (.exit id st)
 | .scope c,Q,st=>zu cf y c Q st
 | .label _,Q,st=>Q (.norm st)
 | .ret,Q,st=>Q (.ret st)
 |_,_,_=>False
abbrev Y8(cf:dS):Code->(Out->Prop)->St->Prop:=zu cf false
def Wz(cf:dS)(f:FuncId)(args:List af)(h:aC)(Q:dz->Prop):Prop:=
 match cf.P.funcs[f]? with
 |some fn=>match fn.body with
  |some c=>Y8 cf c (fun o=>match oZ cf.P fn (some o)with
   |some r=>Q r
   |none=>False) ⟨ko args,h⟩
  |none=>False
 |none=>False
theorem lp{cf:dS}{tm:Nat->af}{h:aC}{o:Op}{K:af->aC->Prop}(hw:Ri cf tm h o K): ∃v h',aT cf tm h o=some (.val v h')/\K v h':=by
 unfold Ri at hw;split at hw
 ·-- indexAddr
  rename_i t x i;split at hw
  ·rename_i xs k i hx hi;split at hw
   ·rename_i e sz hs;obtain⟨y,hy,h0,hc,hk⟩:=hw;exact⟨_,_,by simp only[aT,hx,hi,tZ,hs,hy];rw[if_pos ⟨h0,hc⟩];rfl,hk⟩
   ·exact hw.elim
  ·rename_i id st len k i hx hi;split at hw
   ·rename_i e sz iz es hs ho;obtain⟨⟨h0,h1⟩,hc,hk⟩:=hw;exact⟨_,_,by simp only[aT,hx,hi,tZ,hs,ho];rw[if_pos ⟨h0,h1,hc⟩];rfl,hk⟩
   ·exact hw.elim
  ·rename_i x k i _ _ hx hi;split at hw
   ·rename_i v hv;exact⟨v,h,by simp only[aT,hx,hi,hv];rfl,hw⟩
   ·exact hw.elim
  ·exact hw.elim
 ·-- load
  rename_i t a;split at hw
  ·rename_i id i off ha;split at hw
   ·rename_i x ho;split at hw
    ·rename_i y9 v _ hv;exact⟨v,h,by simp only[aT,ha,jq,ho,y9,if_true,hv];rfl,iT hw⟩
    ·exact hw.elim
   ·rename_i sz es ho;obtain⟨x,hx,hw⟩:=hw;split at hw
    ·rename_i v hv;exact⟨v,h,by simp only[aT,ha,jq,ho,hx,hv];rfl,iT hw⟩
    ·exact hw.elim
   ·exact hw.elim
  ·rename_i xs i off ha;split at hw
   ·rename_i x hx;split at hw
    ·rename_i v hv;exact⟨v,h,by simp only[aT,ha,jq,hx,hv];rfl,iT hw⟩
    ·exact hw.elim
   ·exact hw.elim
  ·exact hw.elim
 ·-- binOp
  rename_i op t x y t2;split at hw
  ·rename_i a b ha hb;obtain⟨v,hv,hw⟩:=IB hw;exact⟨v,h,by simp only[aT,ha,hb,hv];rfl,hw⟩
  ·exact hw.elim
 ·-- store
  rename_i t a v;split at hw
  ·rename_i id i off v s ha hv ht;split at hw
   ·rename_i hl _ aD;split at hw
    ·rename_i x ho;split at hw
     ·rename_i y9 x' _ uh;exact⟨_,_,by simp only[aT,ha,hv,q8,ht];rw[if_pos ⟨hl,aD⟩];simp only[ho,y9,if_true,uh,bh],fE (K:=fun x'=>K (.dX []) (h.set _ (.box x'))) hw⟩
     ·exact hw.elim
    ·rename_i sz es ho;obtain⟨x,hx,hw⟩:=hw;split at hw
     ·rename_i x' uh;exact⟨_,_,by simp only[aT,ha,hv,q8,ht];rw[if_pos ⟨hl,aD⟩];simp only[ho,hx,uh,bh],hw⟩
     ·exact hw.elim
    ·exact hw.elim
   ·exact hw.elim
  ·exact hw.elim
 ·-- lookup
  rename_i t m k ok;split at hw
  ·rename_i ks vs k' kt et hm hk QW;split at hw
   ·rename_i z Lz hz;rcases E7 ks vs 0 _ hw with⟨i,v,h1,h2,h3⟩|⟨h1,h2⟩
    ·rw[bg]at h1
     cases ok with
     |true=>exact⟨_,_,by simp only[aT,hm,hk,wZ,QW,Lz,if_true,h1,h2];rfl,h3⟩
     |false=>exact⟨_,_,by simp only[aT,hm,hk,wZ,QW,Lz,if_true,h1,h2];rfl,h3⟩
    ·cases ok with
     |true=>exact⟨_,_,by simp only[aT,hm,hk,wZ,QW,Lz,if_true,h1,hz];rfl,h2⟩
     |false=>exact⟨_,_,by simp only[aT,hm,hk,wZ,QW,Lz,if_true,h1,hz];rfl,h2⟩
   ·exact hw.elim
  ·rename_i m' k' q _ hm hk QW;split at hw
   ·rename_i v hv;exact⟨v,h,by simp only[aT,hm,hk,hv];rfl,hw⟩
   ·exact hw.elim
  ·exact hw.elim
 ·-- makeSlice
  rename_i t l c;split at hw
  ·rename_i kl l' kc c' e sz hl hc hs;obtain⟨hb,hw⟩:=hw;split at hw
   ·rename_i z hz;split at hw
    ·rename_i sU _;exact⟨_,_,by simp only[aT,hl,hc,Ei,hs];rw[if_pos hb];simp only[hz];rw[if_pos sU];rfl,hw⟩
    ·exact hw.elim
   ·exact hw.elim
  ·exact hw.elim
 ·-- buildSlice
  rename_i t n ps;split at hw
  ·rename_i et sz vs hs hv hn;split at hw
   ·rename_i z je hz;split at hw
    ·rename_i Bd es _ TO;have he:aT cf tm h (.buildSlice t n ps)=some (.val (lD h sz n es).1 (lD h sz n es).2):=by simp only[aT,hs,hv];rw[if_pos ⟨of_decide_eq_true hn,of_decide_eq_true je⟩];simp only[hz];rw[if_pos Bd];simp only[TO]
     cases n with
     |zero=>exact⟨_,_,he,hw⟩
     |succ n=>exact⟨_,_,he,ic (K:=fun es=>K (nP h sz es).1 (nP h sz es).2) hw⟩
    ·exact hw.elim
   ·exact hw.elim
  ·exact hw.elim
 ·-- slice
  rename_i t x lo hi;split at hw
  ·rename_i s Kj o7 hx yp Kg;split at hw
   ·rename_i hu;obtain⟨hb,hw⟩:=hw;exact⟨_,_,by simp only[aT,hx,yp,Kg,lZ,hu];rw[if_pos hb];rfl,hw⟩
   ·exact hw.elim
  ·rename_i xs Kj o7 hx yp Kg;split at hw
   ·rename_i e sz hs;obtain⟨hb,hw⟩:=hw;exact⟨_,_,by simp only[aT,hx,yp,Kg,lZ,hs];rw[if_pos hb];rfl,hw⟩
   ·exact hw.elim
  ·rename_i id st len Kj o7 hx yp Kg;split at hw
   ·rename_i e sz iz es hs ho;obtain⟨hb,hw⟩:=hw;exact⟨_,_,by simp only[aT,hx,yp,Kg,lZ,hs,ho];rw[if_pos hb];rfl,hw⟩
   ·exact hw.elim
  ·rename_i Kj o7 hx yp Kg;split at hw
   ·rename_i q hs;obtain⟨hb,hw⟩:=hw;exact⟨_,_,by simp only[aT,hx,yp,Kg,lZ,hs];rw[if_pos hb];rfl,hw⟩
   ·exact hw.elim
  ·exact hw.elim
 ·-- index
  rename_i t x i;split at hw
  ·rename_i s k i' hx hi;split at hw
   ·rename_i hu;obtain⟨b,hb,h0,hw⟩:=hw;exact⟨_,_,by simp only[aT,hx,hi,yK,hu];rw[if_pos h0];simp only[hb];rfl,hw⟩
   ·exact hw.elim
  ·rename_i cs k i' hx hi;split at hw
   ·rename_i n e sz ha;obtain⟨hb,v,hv,hw⟩:=hw;exact⟨v,h,by simp only[aT,hx,hi,yK,ha];rw[if_pos hb];simp only[hv];rfl,iT hw⟩
   ·exact hw.elim
  ·exact hw.elim
 ·-- pick
  rename_i c a b;split at hw
  ·rename_i t x y hc ha hb;rcases eP hw with⟨rfl,hw⟩|⟨rfl,hw⟩
   ·exact⟨_,_,by simp only[aT,hc,ha,hb];rfl,hw⟩
   ·exact⟨_,_,by simp only[aT,hc,ha,hb];rfl,hw⟩
  ·exact hw.elim
 ·-- append
  rename_i args argTypes;split at hw
  ·rename_i s x t d ha ht hd;obtain⟨SW,hw⟩:=hw;split at hw
   ·rename_i e sz ys hs hy;obtain⟨aD,hw⟩:=hw
    have key: ∀r,hY cf.P t s x h=some r->aT cf tm h (.call {callee:=.builtin .append,args,argTypes})=some (.val r.1 r.2):=by
     intro r hr;simp only[aT,cI,ha,ht,hd];cases d<;>simp_all
    split at hw
    ·rcases eP hw with⟨he,hw⟩|⟨he,hl,hw⟩
     ·have zc:ys=[]:=by simpa using he
      exact⟨_,_,key (.nil,h) (by subst zc;simp[hY,hs,hy]),hw⟩
     ·have zc:ys≠[]:=by intro e;simp[e]at he
      exact⟨_,_,key (nP h sz ys) (by simp only[hY,hs,hy,aD,if_true];rw[if_neg zc,if_pos hl]),hw⟩
    ·rename_i id st len;split at hw
     ·rename_i iz es ho;obtain⟨h0,h1,h2,hw⟩:=hw;rcases eP hw with⟨he,hw⟩|⟨he,hl,hw⟩
      ·have zc:ys=[]:=by simpa using he
       exact⟨_,_,key (.own id 0 len,h.set id (.arr iz (es.take len))) (by simp only[hY,hs,hy,aD,if_true,ho];rw[if_pos ⟨h0,h1,h2⟩,if_pos zc]),hw⟩
      ·have zc:ys≠[]:=by intro e;simp[e]at he
       exact⟨_,_,key (nP (h.set id .dead) sz (es.take len++ys)) (by simp only[hY,hs,hy,aD,if_true,ho];rw[if_pos ⟨h0,h1,h2⟩,if_neg zc,if_pos hl]),hw⟩
     ·exact hw.elim
    ·exact hw.elim
   ·exact hw.elim
  ·exact hw.elim
 ·split at hw
  ·rename_i v h' hv;exact⟨v,h',hv,hw⟩
  ·exact hw.elim
theorem IE{cf:dS}{tm:Nat->af}{h:aC}{o:Op}{K:af->aC->Prop}(hw:Ua cf tm h o K): ∃v h',aT cf tm h o=some (.val v h')/\K v h':=by
 unfold Ua at hw;split at hw
 ·rename_i t a;split at hw
  ·rename_i id i off ha;obtain⟨x,ho,y9,hw⟩:=hw;split at hw
   ·rename_i v hv;exact⟨v,h,by simp only[aT,ha,jq,ho,y9,if_true,hv];rfl,iT hw⟩
   ·exact hw.elim
  ·exact lp hw
 ·rename_i t a v;split at hw
  ·rename_i id i off v _ s ha hv ht;split at hw
   ·rename_i hl _ aD;obtain⟨x,ho,y9,hw⟩:=hw;split at hw
    ·rename_i x' uh;exact⟨_,_,by simp only[aT,ha,hv,q8,ht];rw[if_pos ⟨hl,aD⟩];simp only[ho,y9,if_true,uh,bh],fE (K:=fun x'=>∀h',h'=h.set _ (.box x')->K (.dX []) h') hw _ rfl⟩
    ·exact hw.elim
   ·exact hw.elim
  ·exact hw.elim
 ·rename_i t;split at hw
  ·rename_i z hz;exact⟨_,_,by simp only[aT,hz];rfl,hw _ _ rfl rfl⟩
  ·exact hw.elim
 ·rename_i t x;split at hw
  ·rename_i z hz;exact⟨_,_,by simp only[aT,hz];rfl,hw _ _ rfl rfl⟩
  ·exact hw.elim
 ·exact lp hw
theorem qd{cf:dS}{tm:Nat->af}{h:aC}{o:Op}{K:af->aC->Prop}(hw:LU cf tm h o K): ∃v h',aT cf tm h o=some (.val v h')/\K v h':=by
 unfold LU at hw;split at hw
 ·-- load
  rename_i t a;split at hw
  ·rename_i id i off ha;rcases hw with⟨x,ho,y9,hw⟩|⟨sz,es,x,ho,y9,hw⟩
   ·unfold Oz at hw;split at hw
    ·rename_i v hv;exact⟨v,h,by simp only[aT,ha,jq,ho,y9,if_true,hv];rfl,iT hw⟩
    ·exact hw.elim
   ·unfold Oz at hw;split at hw
    ·rename_i v hv;exact⟨v,h,by simp only[aT,ha,jq,ho,y9,hv];rfl,iT hw⟩
    ·exact hw.elim
  ·exact lp hw
 ·-- store
  rename_i t a v;split at hw
  ·rename_i id i off v _ s ha hv ht;obtain⟨cs,rq,hl,aD,hw⟩:=hw;subst rq;rcases hw with⟨x,ho,y9,hw⟩|⟨sz,es,x,ho,y9,hw⟩
   ·unfold IC at hw;split at hw
    ·rename_i x' uh;exact⟨_,_,by simp only[aT,ha,hv,q8,ht];rw[if_pos ⟨hl,aD⟩];simp only[ho,y9,if_true,uh,bh],fE (K:=fun x'=>∀h',h'=h.set _ (.box x')->K (.dX []) h') hw _ rfl⟩
    ·exact hw.elim
   ·unfold IC at hw;split at hw
    ·rename_i x' uh;exact⟨_,_,by simp only[aT,ha,hv,q8,ht];rw[if_pos ⟨hl,aD⟩];simp only[ho,y9,uh,bh],fE (K:=fun x'=>∀h',h'=h.set _ (.arr sz (es.set i x'))->K (.dX []) h') hw _ rfl⟩
    ·exact hw.elim
  ·exact hw.elim
 ·rename_i t;split at hw
  ·rename_i z hz;exact⟨_,_,by simp only[aT,hz];rfl,hw _ _ rfl rfl⟩
  ·exact hw.elim
 ·rename_i t x;split at hw
  ·rename_i z hz;exact⟨_,_,by simp only[aT,hz];rfl,hw _ _ rfl rfl⟩
  ·exact hw.elim
 ·-- indexAddr
  rename_i t x i;split at hw
  ·rename_i id st len _ i hx hi;split at hw
   ·rename_i e sz hs;obtain⟨es,ho,hb,hw⟩:=hw;exact⟨_,_,by simp only[aT,hx,hi,tZ,hs,ho];rw[if_pos ⟨hb.1,hb.2,trivial⟩];rfl,hw⟩
   ·exact hw.elim
  ·exact lp hw
 ·-- makeSlice
  rename_i t l c;split at hw
  ·rename_i _ l _ c e sz hl hc hs;obtain⟨hb,hw⟩:=hw;split at hw
   ·rename_i z hz;split at hw
    ·rename_i sU _;exact⟨_,_,by simp only[aT,hl,hc,Ei,hs];rw[if_pos hb];simp only[hz];rw[if_pos sU];rfl,hw _ _ rfl rfl⟩
    ·exact hw.elim
   ·exact hw.elim
  ·exact hw.elim
 ·-- buildSlice
  rename_i t n ps;split at hw
  ·rename_i et sz vs hs hv hn;split at hw
   ·rename_i z je hz;split at hw
    ·rename_i Bd es _ TO;have he:aT cf tm h (.buildSlice t n ps)=some (.val (lD h sz n es).1 (lD h sz n es).2):=by simp only[aT,hs,hv];rw[if_pos ⟨of_decide_eq_true hn,of_decide_eq_true je⟩];simp only[hz];rw[if_pos Bd];simp only[TO]
     cases n with
     |zero=>exact⟨_,_,he,hw⟩
     |succ n=>exact⟨_,_,he,ic (K:=fun es=>∀k h',k=h.length->h'=h++[.arr sz es]->K (.own k 0 es.length) h') hw _ _ rfl rfl⟩
    ·exact hw.elim
   ·exact hw.elim
  ·exact hw.elim
 ·-- append
  rename_i args argTypes;split at hw
  ·rename_i s x t d ha ht hd;obtain⟨SW,hw⟩:=hw;split at hw
   ·rename_i e sz hs;obtain⟨ys,hy,aD,hw⟩:=hw;unfold ID at hw
    have key: ∀r,hY cf.P t s x h=some r->aT cf tm h (.call {callee:=.builtin .append,args,argTypes})=some (.val r.1 r.2):=by
     intro r hr;simp only[aT,cI,ha,ht,hd];cases d<;>simp_all
    split at hw
    ·rcases hw with⟨he,hw⟩|⟨he,hl,hw⟩
     ·exact⟨_,_,key (.nil,h) (by subst he;simp[hY,hs,hy]),hw⟩
     ·exact⟨_,_,key (nP h sz ys) (by simp only[hY,hs,hy,aD,if_true];rw[if_neg he,if_pos hl]),hw _ _ rfl rfl⟩
    ·rename_i id st len;obtain⟨es,ho,h0,h2,hw⟩:=hw;rcases hw with⟨he,hw⟩|⟨he,hl,hw⟩
     ·exact⟨_,_,key (.own id 0 len,h.set id (.arr sz (es.take len))) (by simp only[hY,hs,hy,aD,if_true,ho];rw[if_pos ⟨h0,trivial,h2⟩,if_pos he]),hw _ rfl⟩
     ·exact⟨_,_,key (nP (h.set id .dead) sz (es.take len++ys)) (by simp only[hY,hs,hy,aD,if_true,ho];rw[if_pos ⟨h0,trivial,h2⟩,if_neg he,if_pos hl]),hw _ _ (by simp) rfl⟩
    ·exact hw.elim
   ·exact hw.elim
  ·exact hw.elim
 ·exact lp hw
theorem BV{cf:dS}{y d:Bool}{o:Oper}{tm:Nat->af}{hp:aC}{K:(Nat->af)->aC->Prop}{K':St->Option Out}{Q:Out->Prop}(hK: ∀tm hp,K tm hp-> ∃r,K' ⟨tm,hp⟩=some r/\Q r)(hw:X0 cf y d o tm hp K Q):
  ∃r,eJ cf (call cf) d o ⟨tm,hp⟩ K'=some r/\Q r:=by
   have open_: ∀{v:af}{h:aC},(jj v fun v=>uC v fun v=>qc h fun h=>l9 tm o.dst v fun tm=>K tm h)->K (iN tm o.dst v) h:=by
    intro v h hh;exact iL (K:=fun tm=>K tm h) (lK (K:=fun h=>l9 tm o.dst v fun tm=>K tm h) (CZ (K:=fun v=>qc h fun h=>l9 tm o.dst v fun tm=>K tm h) (fE (K:=fun v=>uC v fun v=>qc h fun h=>l9 tm o.dst v fun tm=>K tm h) hh)))
   have OC: ∀{v:af}{h:aC},(jj v fun v=>l9 tm o.dst v fun tm=>K tm h)->K (iN tm o.dst v) h:=by
    intro v h hh;exact iL (K:=fun tm=>K tm h) (fE (K:=fun v=>l9 tm o.dst v fun tm=>K tm h) hh)
   unfold X0 at hw;split at hw
   ·split at hw
    ·rename_i f args hv;split at hw
     ·exact hw.elim
     ·rename_i hg;obtain⟨r,hr,hw⟩:=E8 hw
      cases r with
      |ret v h=>
       obtain⟨r,h1,h2⟩:=hK _ _ (OC (iT (K:=fun v=>jj v fun v=>l9 tm o.dst v fun tm=>K tm h) hw))
       exact⟨r,by unfold eJ;simp only[hv,hg,hr];exact h1,h2⟩
      |iK v h=>exact⟨.iK v h,by unfold eJ;simp only[hv,hg,hr],hw⟩
    ·rename_i v hv;exact⟨.iK v hp,by unfold eJ;simp only[hv],hw⟩
    ·exact hw.elim
   ·have key: ∃v h',aT cf tm hp o.op=some (.val v h')/\K (iN tm o.dst v) h':=by
     split at hw
     ·obtain⟨v,h',hv,hk⟩:=qd hw;exact⟨v,h',hv,OC hk⟩
     ·split at hw
      ·obtain⟨v,h',hv,hk⟩:=lp hw;exact⟨v,h',hv,OC hk⟩
      ·obtain⟨v,h',hv,hk⟩:=lp hw;exact⟨v,h',hv,open_ hk⟩
    obtain⟨v,h',hv,hk⟩:=key;obtain⟨r,h1,h2⟩:=hK _ _ hk;exact⟨r,by unfold eJ;simp only[hv];exact h1,h2⟩
theorem IF{cf:dS}{tm:Nat->af}{h:aC}{o:Op}(hp:jD o=true){r:HI}(hr:aT cf tm h o=some r): ∃v,r= .val v h:=by
 cases o<;>simp only[jD]at hp<;>try(cases hp)
 all_goals simp only[aT]at hr
 case move x=>cases hx:ev cf.G tm x<;>simp[hx]at hr;exact⟨_,hr.symm⟩
 case assign x=>cases hx:ev cf.G tm x<;>simp[hx]at hr;exact⟨_,hr.symm⟩
 case pick c a b=>split at hr<;>simp at hr;exact⟨_,hr.symm⟩
 case load t a=>split at hr<;>simp at hr;obtain⟨a,_,rfl⟩:=hr;exact⟨_,rfl⟩
 case binOp=>split at hr<;>simp at hr;obtain⟨a,_,rfl⟩:=hr;exact⟨_,rfl⟩
 case unOp=>split at hr<;>simp at hr;obtain⟨a,_,rfl⟩:=hr;exact⟨_,rfl⟩
 case convert=>split at hr<;>simp at hr;obtain⟨a,_,rfl⟩:=hr;exact⟨_,rfl⟩
 case fieldAddr=>split at hr<;>simp at hr<;>exact⟨_,hr.symm⟩
 case field=>split at hr<;>simp at hr;obtain⟨a,_,rfl⟩:=hr;exact⟨_,rfl⟩
 case indexAddr=>split at hr<;>simp at hr;obtain⟨a,_,rfl⟩:=hr;exact⟨_,rfl⟩
 case index=>split at hr<;>simp at hr;obtain⟨a,_,rfl⟩:=hr;exact⟨_,rfl⟩
 case lookup=>split at hr<;>simp at hr;obtain⟨a,_,rfl⟩:=hr;exact⟨_,rfl⟩
 case extract=>split at hr<;>simp at hr;obtain⟨a,_,rfl⟩:=hr;exact⟨_,rfl⟩
 case call c=>
  obtain⟨callee,args,sG⟩:=c
  cases callee with
  |value f=>cases hp
  |invoke r m=>cases hp
  |builtin b=>
   cases b<;>simp only at hp<;>try(cases hp)
   simp only[cI]at hr
   cases ha:cp (ev cf.G tm) args.toList with
   |none=>simp[ha]at hr
   |some as=>
    simp only[ha]at hr
    match as,hr with
    | [x],hr=>
     simp only at hr;split at hr
     ·split at hr<;>simp at hr<;>exact⟨_,hr.symm⟩
     ·split at hr<;>simp at hr<;>exact⟨_,hr.symm⟩
     ·split at hr<;>simp at hr<;>exact⟨_,hr.symm⟩
     ·cases hr
    | [],hr=>cases hr
    |_::_::_,hr=>cases hr
theorem tq{cf:dS}{d:Bool}{o:Oper}{st:St}{K:St->Option Out}{r:Out}(hp:jD o.op=true)(h:eJ cf (call cf) d o st K=some r):
  ∃v,aT cf st.tm st.hp o.op=some (.val v st.hp)/\K ⟨iN st.tm o.dst v,st.hp⟩=some r:=by
   unfold eJ at h
   cases ho:aT cf st.tm st.hp o.op with
   |none=>simp[ho]at h
   |some q=>
    obtain⟨v,rfl⟩:=IF hp ho;simp only[ho]at h;exact⟨v,rfl,h⟩
theorem oh{cf:dS}{d:Bool}{ops:Array Oper}{o:Oper}{n:Nat}{K:(Nat->af)->aC->Prop}{K':St->Option Out}{Q:Out->Prop}(hK: ∀tm hp,K tm hp-> ∃r,K' ⟨tm,hp⟩=some r/\Q r)(tm:Nat->af)(hp:aC)
  (h:BU cf d ops o n K tm hp): ∃r,kX cf d ops o n K' ⟨tm,hp⟩=some r/\Q r:=by
   unfold BU at h;unfold kX;split at h
   ·rename_i hc;simp only[hc];exact hK _ _ h
   ·rename_i hc;simp only[hc];split at h
    ·rename_i hq;simp only[hq];exact hK _ _ h
    ·rename_i hq;simp only[hq];unfold Bu;rw[if_pos h.1];exact hK _ _ h.2
theorem LV{cf:dS}{y d:Bool}{ops:Array Oper}{Q:Out->Prop}: ∀(l:List Oper)(tm:Nat->af)(hp:aC),Ub cf y d ops Q l tm hp-> ∃o,jh cf (call cf) d ops l ⟨tm,hp⟩=some o/\Q o:=by
 intro l
 induction l with
 |nil=>intro tm hp h;exact⟨_,rfl,h⟩
 |cons o rest ih=>
  intro tm hp h;unfold Ub at h;simp only[jh]
  cases hg:dP ops o tm with
  |none=>simp only[hg]at h⊢;exact BV (oh ih) h
  |some t=>
   simp only[hg]at h⊢;rcases eP h with⟨rfl,h⟩|⟨rfl,h⟩
   ·obtain⟨r,h1,h2⟩:=BV (oh ih) h
    by_cases hp:jD o.op=true
    ·rw[if_pos hp];obtain⟨v,hv,hk⟩:=tq hp h1;have hk:=(kn hk).1;exact⟨r,by simp only[Ej,hv];exact hk,h2⟩
    ·rw[if_neg hp];exact⟨r,h1,h2⟩
   ·obtain⟨r,h1,h2⟩:=ih _ _ (iL (K:=fun tm=>Ub cf y d ops Q rest tm hp) h)
    by_cases hp:jD o.op=true
    ·rw[if_pos hp];exact⟨r,h1,h2⟩
    ·rw[if_neg hp];exact⟨r,h1,h2⟩
theorem vX{cf:dS}{y:Bool}: ∀(c:Code)(Q:Out->Prop)(st:St),zu cf y c Q st-> ∃o,bW cf (call cf) (gY cf) c st=some o/\Q o:=by
 intro c
 induction c with
 |skip=>intro Q st h;exact⟨_,rfl,h⟩
 |region id ops d=>
  intro Q st h;simp only[zu]at h;replace h:=vW h;obtain⟨o,ho,hq⟩:=LV _ _ _ h;refine⟨o,?_,?_⟩
  ·simp only[bW,ho]
   cases d with
   |false=>rfl
   |true=>cases o<;>first|rfl|exact hq.elim
  ·cases d with
   |false=>cases o<;>exact hq
   |true=>cases o<;>first|exact hq|exact hq.elim
 |seq a b rf rh=>
  intro Q st h;obtain⟨o,ho,h⟩:=rf _ _ h;simp only[bW,ho]
  cases o with
  |norm d8=>exact rh _ _ h
  |exit j s=>exact⟨_,rfl,h⟩
  |ret s=>exact⟨_,rfl,h⟩
  |iK v hp=>exact⟨_,rfl,h⟩
 |cond c a b rf rh=>
  intro Q st h;simp only[zu]at h;split at h
  ·rename_i t ht;simp only[bW,ht];rcases eP h with⟨rfl,h⟩|⟨rfl,h⟩
   ·exact rf _ _ h
   ·exact rh _ _ h
  ·exact h.elim
 |block id c ih=>
  intro Q st h;obtain⟨o,ho,h⟩:=ih _ _ h;simp only[bW,ho]
  cases o with
  |norm d8=>exact⟨_,rfl,h⟩
  |exit j s=>
   simp only at h
   by_cases e:j=id
   ·simp only[if_pos e]
    cases hd:Nat.decEq j id with
    |isTrue _=>simp only[hd]at h;exact⟨_,rfl,h⟩
    |isFalse n=>exact(n e).elim
   ·simp only[if_neg e]
    cases hd:Nat.decEq j id with
    |isTrue y=>exact(e y).elim
    |isFalse n=>simp only[hd]at h;exact⟨_,rfl,h⟩
  |ret s=>exact⟨_,rfl,h⟩
  |iK v hp=>exact⟨_,rfl,h⟩
 |loop c ih=>intro Q st h;exact h
 |exit id=>intro Q st h;exact⟨_,rfl,h⟩
 |scope c ih=>intro Q st h;exact ih _ _ h
 |label l=>intro Q st h;exact⟨_,rfl,h⟩
 |ret=>intro Q st h;exact⟨_,rfl,h⟩
 |rangeFunc f p a b _ _=>intro Q st h;exact h.elim
 |goto l=>intro Q st h;exact h.elim
 |refuse w=>intro Q st h;exact h.elim
theorem BW{cf:dS}{f:FuncId}{args:List af}{h:aC}{Q:dz->Prop}(hp:cf.pr f=none)(hw:Wz cf f args h Q): ∃r,call cf f args h=some r/\Q r:=by
 unfold Wz at hw;rw[ub];unfold me;simp only[hp];split at hw
 ·rename_i fn hf;simp only[hf];split at hw
  ·rename_i c hc;simp only[hc];obtain⟨o,ho,hq⟩:=vX _ _ _ hw;simp only[ho];split at hq
   ·rename_i r hr;exact⟨r,hr,hq⟩
   ·exact hq.elim
  ·exact hw.elim
 ·exact hw.elim
theorem zw{cf:dS}(y:Bool){c:Code}{Q:Out->Prop}(I:Nat->St->Prop)
  (round: ∀n st,I n st->zu cf y c (fun o=>match o with| .norm d8=>∃m,m<n/\I m d8|o=>Q o) st): ∀n st,I n st-> ∃o,gY cf c st=some o/\Q o:=by
   intro n
   induction n using Nat.strongRecOn with
   |_ n ih=>
    intro st hI;obtain⟨o,ho,h⟩:=vX _ _ _ (round n st hI);rw[uc];unfold gG;simp only[ho]
    cases o with
    |norm d8=>obtain⟨m,hm,Uc⟩:=h;exact ih m hm _ Uc
    |exit j s=>exact⟨_,rfl,h⟩
    |ret s=>exact⟨_,rfl,h⟩
    |iK v hp=>exact⟨_,rfl,h⟩
theorem dJ{cf:dS}{c:Code}{Q:Out->Prop}(I:Nat->St->Prop)
  (round: ∀n st,I n st->Y8 cf c (fun o=>match o with| .norm d8=>∃m,m<n/\I m d8|o=>Q o) st): ∀n st,I n st-> ∃o,gY cf c st=some o/\Q o:=zw false I round
theorem cn{cf:dS}{c:Code}{Q:Out->Prop}{st:St}(h:Y8 cf c (fun o=>match o with| .norm d8=>∃o,gY cf c d8=some o/\Q o|o=>Q o) st): ∃o,gY cf c st=some o/\Q o:=by
 obtain⟨o,ho,h⟩:=vX _ _ _ h;rw[uc];unfold gG;simp only[ho]
 cases o with
 |norm d8=>exact h
 |exit j s=>exact⟨_,rfl,h⟩
 |ret s=>exact⟨_,rfl,h⟩
 |iK v hp=>exact⟨_,rfl,h⟩
end Go.Am

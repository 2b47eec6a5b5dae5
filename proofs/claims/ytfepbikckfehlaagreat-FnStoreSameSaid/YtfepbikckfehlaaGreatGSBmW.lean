/- Am's evaluation as a predicate transformer that Lean's own reduction carries out: what must be told by hand stands as a conjunct. -/
import Derived.Test.YtfepbikckfehlaaGreatGSBmA
set_option linter.unusedVariables false
set_option linter.unusedSimpArgs false
set_option maxHeartbeats 4000000
namespace Go.Am
open Go
def rC(t:Bool)(A B:Prop):Prop:=@Bool.rec (fun _=>Prop) B A t
theorem ae{t:Bool}{A B:Prop}(ha:t=true->A)(hb:t=false->B):rC t A B:=by cases t with|true=>exact ha rfl|false=>exact hb rfl
theorem fS{t:Bool}{A B:Prop}(h:t=true)(ha:A):rC t A B:=by subst h;exact ha
theorem bm{t:Bool}{A B:Prop}(h:t=false)(hb:B):rC t A B:=by subst h;exact hb
theorem fT{t:Bool}{A B:Prop}(h:rC t A B):(t=true/\A)∨(t=false/\B):=by cases t with|true=>exact .inl ⟨rfl,h⟩|false=>exact .inr ⟨rfl,h⟩
def Qk(v:af)(K:af->Prop):Prop:=match v with
 | .bool t=>rC t (K (.bool true)) (K (.bool false))
 | .agg cs=>K (.agg cs)
 | .eT vs=>K (.eT vs)
 | .int k n=>K (.int k n)
 | .str s=>K (.str s)
 | .nil=>K .nil
 | .sl xs=>K (.sl xs)
 | .fQ xs i off=>K (.fQ xs i off)
 | .sx=>K .sx
 | .qY=>K .qY
 | .zB=>K .zB
 | .qZ=>K .qZ
 | .own id st len=>K (.own id st len)
 | .ptr id i off=>K (.ptr id i off)
 | .map id=>K (.map id)
 | .oo ks vs=>K (.oo ks vs)
 | .it id=>K (.it id)
 | .func fn a b=>K (.func fn a b)
 | .iface t v=>K (.iface t v)
 | .gv g t=>K (.gv g t)
theorem jU{v:af}{K:af->Prop}(h:Qk v K):K v:=by
 cases v
 case bool t=>
  rcases fT h with⟨rfl,h⟩|⟨rfl,h⟩<;>exact h
 all_goals exact h
def rD{α:Type}:List α->(List α->Prop)->Prop
 | [],K=>K []
 |x::xs,K=>rD xs fun ys=>K (x::ys)
theorem m8{α:Type}: ∀{l:List α}{K:List α->Prop},rD l K->K l
 | [],_,h=>h
 |x::xs,_,h=>m8 (l:=xs) h
def kE(v:af)(K:af->Prop):Prop:=match v with
 | .agg cs=>rD cs fun cs=>K (.agg cs)
 | .bool b=>K (.bool b)
 | .eT vs=>rD vs fun vs=>K (.eT vs)
 | .int k n=>K (.int k n)
 | .str s=>K (.str s)
 | .nil=>K .nil
 | .sl xs=>K (.sl xs)
 | .fQ xs i off=>K (.fQ xs i off)
 | .sx=>K .sx
 | .qY=>K .qY
 | .zB=>K .zB
 | .qZ=>K .qZ
 | .own id st len=>K (.own id st len)
 | .ptr id i off=>K (.ptr id i off)
 | .map id=>K (.map id)
 | .oo ks vs=>K (.oo ks vs)
 | .it id=>K (.it id)
 | .func fn a b=>K (.func fn a b)
 | .iface t v=>K (.iface t v)
 | .gv g t=>K (.gv g t)
theorem gG{v:af}{K:af->Prop}(h:kE v K):K v:=by
 cases v
 case agg cs=>exact m8 (K:=fun cs=>K (.agg cs)) h
 case eT cs=>exact m8 (K:=fun cs=>K (.eT cs)) h
 all_goals exact h
def nX:List af->(List af->Prop)->Prop
 | [],K=>K []
 |x::xs,K=>kE x fun x=>nX xs fun ys=>K (x::ys)
theorem jn: ∀{l:List af}{K:List af->Prop},nX l K->K l
 | [],_,h=>h
 |x::xs,K,h=>by
  have h1:=gG (K:=fun x=>nX xs fun ys=>K (x::ys)) h;exact jn (l:=xs) (K:=fun ys=>K (x::ys)) h1
def AS:Nat->(Nat->Prop)->Prop
 |0,K=>K 0
 |n+1,K=>AS n fun m=>K (m+1)
theorem p7: ∀{n:Nat}{K:Nat->Prop},AS n K->K n
 |0,_,h=>h
 |n+1,K,h=>p7 (n:=n) (K:=fun m=>K (m+1)) h
def wo(v:af)(K:af->Prop):Prop:=match v with
 | .ptr id i off=>AS id fun id=>K (.ptr id i off)
 | .own id st len=>AS id fun id=>K (.own id st len)
 | .map id=>AS id fun id=>K (.map id)
 |v=>K v
theorem EC{v:af}{K:af->Prop}(h:wo v K):K v:=by
 unfold wo at h;split at h
 ·exact p7 (K:=fun id=>K (.ptr id _ _)) h
 ·exact p7 (K:=fun id=>K (.own id _ _)) h
 ·exact p7 (K:=fun id=>K (.map id)) h
 ·exact h
def nE(tm:Nat->af)(dst:Option Nat)(v:af)(K:(Nat->af)->Prop):Prop:=match dst with
 |some d=>K (fX tm d v)
 |none=>K tm
theorem jJ{tm:Nat->af}{dst:Option Nat}{v:af}{K:(Nat->af)->Prop}(h:nE tm dst v K):K (jL tm dst v):=by cases dst<;>exact h
def xJ(P:Program)(op:BinOp)(t:TypeId)(xo yo:Operand)(a b:af)(K:af->Prop):Prop:=match Af P op t xo yo a b with
 |some v=>Qk v K
 |none=>False
def Xs(P:Program)(t:TypeId):Option (List FK):=match P.underlying t,Vo P t with
 |some (.struct _),some ks=>some ks
 |_,_=>none
def Ql(P:Program)(op:BinOp)(t:TypeId)(xo yo:Operand)(a b:af)(K:af->Prop):Prop:=match op with
 | .add=>match a with
  | .str x=>match b with
   | .str y=>x.size+y.size<=bB/\K (.str (x++y))
   |_=>False
  |a=>xJ P .add t xo yo a b K
 | .quo=>match a with
  | .int k x=>match b with
   | .int k' y=>k=k'/\y≠0/\K (.int k (k.wrap (x.tdiv y)))
   |_=>False
  |_=>False
 | .rem=>match a with
  | .int k x=>match b with
   | .int k' y=>k=k'/\y≠0/\K (.int k (x.tmod y))
   |_=>False
  |_=>False
 | .eql=>match a with
  | .agg xs=>match b with
   | .agg ys=>∃ks r,Xs P t=some ks/\fC ks xs ys=some r/\rC r (K (.bool true)) (K (.bool false))
   |_=>False
  |a=>xJ P .eql t xo yo a b K
 | .neq=>match a with
  | .agg xs=>match b with
   | .agg ys=>∃ks r,Xs P t=some ks/\fC ks xs ys=some r/\rC r (K (.bool false)) (K (.bool true))
   |_=>False
  |a=>xJ P .neq t xo yo a b K
 |op=>xJ P op t xo yo a b K
theorem p8{P:Program}{op:BinOp}{t:TypeId}{xo yo:Operand}{a b:af}{K:af->Prop}(h:xJ P op t xo yo a b K): ∃v,Af P op t xo yo a b=some v/\K v:=by
 unfold xJ at h;split at h
 ·rename_i v hv;exact⟨v,hv,jU h⟩
 ·exact h.elim
theorem Ki{P:Program}{op:BinOp}{t:TypeId}{xo yo:Operand}{a b:af}{K:af->Prop}(h:Ql P op t xo yo a b K): ∃v,Af P op t xo yo a b=some v/\K v:=by
 unfold Ql at h;split at h
 ·split at h
  ·split at h
   ·obtain⟨h1,h2⟩:=h;exact⟨_,by simp only[Af,SB];rw[if_pos h1],h2⟩
   ·exact h.elim
  ·exact p8 h
 ·split at h
  ·split at h
   ·obtain⟨rfl,h1,h2⟩:=h;exact⟨_,by simp only[Af,if_true,Pq];rw[if_neg h1],h2⟩
   ·exact h.elim
  ·exact h.elim
 ·split at h
  ·split at h
   ·obtain⟨rfl,h1,h2⟩:=h;exact⟨_,by simp only[Af,if_true,Pq];rw[if_neg h1],h2⟩
   ·exact h.elim
  ·exact h.elim
 ·split at h
  ·rename_i xs;split at h
   ·rename_i ys;obtain⟨ks,r,h1,h2,h3⟩:=h
    have h4:Us P t (.agg xs) (.agg ys)=some r:=by
     unfold Xs at h1;unfold Us;split at h1
     ·rename_i fs kC hu hk;cases h1
      simp only[hu,hk,h2]
     ·cases h1
    refine⟨.bool r,by simp only[Af,xu,h4];rfl,?_⟩;rcases fT h3 with⟨rfl,h3⟩|⟨rfl,h3⟩<;>exact h3
   ·exact h.elim
  ·exact p8 h
 ·split at h
  ·rename_i xs;split at h
   ·rename_i ys;obtain⟨ks,r,h1,h2,h3⟩:=h
    have h4:Us P t (.agg xs) (.agg ys)=some r:=by
     unfold Xs at h1;unfold Us;split at h1
     ·rename_i fs kC hu hk;cases h1
      simp only[hu,hk,h2]
     ·cases h1
    refine⟨.bool (!r),by simp only[Af,xu,h4];rfl,?_⟩;rcases fT h3 with⟨rfl,h3⟩|⟨rfl,h3⟩<;>exact h3
   ·exact h.elim
  ·exact p8 h
 ·exact p8 h
def ED(P:Program)(kt:TypeId)(k:af):List af->List af->(Option af->Prop)->Prop
 | [],_,K=>K none
 |x::xs,v::vs,K=>match Gm P kt k x with
  |some b=>rC b (K (some v)) (ED P kt k xs vs K)
  |none=>False
 |_::_,[],_=>False
theorem Hj{P:Program}{kt:TypeId}{k:af}: ∀(ks vs:List af)(n:Nat)(K:Option af->Prop),ED P kt k ks vs K->(∃i v,pU P kt k ks n=some (some (n+i))/\vs[i]?=some v/\K (some v))∨(pU P kt k ks n=some none/\K none):=by
 intro ks
 induction ks with
 |nil=>intro vs n K h;exact .inr ⟨rfl,h⟩
 |cons x xs ih=>
  intro vs n K h
  cases vs with
  |nil=>exact h.elim
  |cons v vs=>
   simp only[ED]at h;split at h
   ·rename_i b hb;rcases fT h with⟨rfl,h⟩|⟨rfl,h⟩
    ·exact .inl ⟨0,v,by simp[pU,hb],rfl,h⟩
    ·rcases ih vs (n+1) K h with⟨i,v',h1,h2,h3⟩|⟨h1,h2⟩
     ·exact .inl ⟨i+1,v',by simp only[pU,hb,h1];congr 2;omega,by simpa using h2,h3⟩
     ·exact .inr ⟨by simp[pU,hb,h1],h2⟩
   ·exact h.elim
def Tl(cf:eP)(tm:Nat->af)(h:aG)(o:Op)(K:af->aG->Prop):Prop:=
 match o with
 | .indexAddr t x i=>match ev cf.G tm x,ev cf.G tm i with
  |some (.sl xs),some (.int _ i)=>match my cf.P t with
   |some (_,sz)=>∃y,xs[i.toNat]?=some y/\0<=i/\y.cells.length=sz/\K (.fQ [y] 0 0) h
   |none=>False
  |some (.own id st len),some (.int _ i)=>match my cf.P t,h[id]? with
   |some (_,sz),some (.arr jz _)=>(0<=i/\i<len)/\jz=sz/\K (.ptr id (st+i.toNat) 0) h
   |_,_=>False
  |some x,some (.int _ i)=>match vH cf.P t x i h with
   |some v=>K v h
   |none=>False
  |_,_=>False
 | .load t a=>match ev cf.G tm a with
  |some (.ptr id i off)=>match h[id]? with
   |some (.box x)=>match Nat.decEq i 0,fZ cf.P t x off with
    |isTrue _,some v=>Qk v (K · h)
    |_,_=>False
   |some (.arr _ es)=>∃x,es[i]?=some x/\match fZ cf.P t x off with
    |some v=>Qk v (K · h)
    |none=>False
   |_=>False
  |some (.fQ xs i off)=>match xs[i]? with
   |some x=>match fZ cf.P t x off with
    |some v=>Qk v (K · h)
    |none=>False
   |none=>False
  |_=>False
 | .binOp op t x y _=>match ev cf.G tm x,ev cf.G tm y with
  |some a,some b=>Ql cf.P op t x y a b (K · h)
  |_,_=>False
 | .store t a v=>match ev cf.G tm a,ev cf.G tm v,Vm cf.P t with
  |some (.ptr id i off),some v,some (_,s)=>match Nat.decEq v.cells.length s,v.cells.all af.bQ with
   |isTrue _,true=>match h[id]? with
    |some (.box x)=>match Nat.decEq i 0,Ac x off v.cells with
     |isTrue _,some x'=>kE x' fun x'=>K (.eT []) (h.set id (.box x'))
     |_,_=>False
    |some (.arr sz es)=>∃x,es[i]?=some x/\match Ac x off v.cells with
     |some x'=>K (.eT []) (h.set id (.arr sz (es.set i x')))
     |none=>False
    |_=>False
   |_,_=>False
  |_,_,_=>False
 | .lookup t m k ok=>match ev cf.G tm m,ev cf.G tm k,Pt cf.P t with
  |some (.oo ks vs),some k,some (kt,et)=>match isKey cf.P kt k,kK cf.P et with
   |true,some z=>ED cf.P kt k ks vs fun r=>match r with
    |some v=>match ok with
     |true=>K (.eT [v,.bool true]) h
     |false=>K v h
    |none=>match ok with
     |true=>K (.eT [z,.bool false]) h
     |false=>K z h
   |_,_=>False
  |some m,some k,some _=>match yB cf.P t m k ok h with
   |some v=>K v h
   |none=>False
  |_,_,_=>False
 | .makeSlice t l c=>match ev cf.G tm l,ev cf.G tm c,my cf.P t with
  |some (.int _ l),some (.int _ c),some (e,sz)=>(0<=l/\l<=c/\c<=(bB:Int))/\match kK cf.P e with
   |some z=>match Nat.decEq z.cells.length sz with
    |isTrue _=>K (.own h.length 0 l.toNat) (h++[.arr sz (List.replicate c.toNat z)])
    |isFalse _=>False
   |none=>False
  |_,_,_=>False
 | .buildSlice t n ps=>match my cf.P t,di (fun p=>(ev cf.G tm p.2).map fun v=>(p.1,v)) ps.toList,decide (n<=4096)with
  |some (et,sz),some vs,true=>match decide (sz<=4096),kK cf.P et with
   |true,some z=>match Nat.decEq z.cells.length sz,kL (List.replicate n z) sz vs with
    |isTrue _,some es=>match n with
     |0=>K .nil h
     |_+1=>nX es fun es=>K (pL h sz es).1 (pL h sz es).2
    |_,_=>False
   |_,_=>False
  |_,_,_=>False
 | .slice t x lo hi none=>match ev cf.G tm x,vI cf.G tm lo,vI cf.G tm hi with
  |some (.str s),some lo,some hi=>match cf.P.underlying t with
   |some .string=>(0<=lo.getD 0/\lo.getD 0<=hi.getD s.size/\hi.getD s.size<=s.size)/\K (.str (s.extract (lo.getD 0).toNat (hi.getD s.size).toNat)) h
   |_=>False
  |some (.sl xs),some lo,some hi=>match my cf.P t with
   |some (_,sz)=>(0<=lo.getD 0/\lo.getD 0<=hi.getD xs.length/\hi.getD xs.length<=xs.length/\xs.all (fun y=>y.cells.length==sz)=true)/\K (.sl ((xs.drop (lo.getD 0).toNat).take ((hi.getD xs.length).toNat-(lo.getD 0).toNat))) h
   |none=>False
  |some (.own id st len),some lo,some hi=>match my cf.P t,h[id]? with
   |some (_,sz),some (.arr jz es)=>(0<=lo.getD 0/\lo.getD 0<=hi.getD len/\hi.getD len<=len/\jz=sz)/\K (.own id (st+(lo.getD 0).toNat) ((hi.getD len).toNat-(lo.getD 0).toNat)) h
   |_,_=>False
  |some (.nil),some lo,some hi=>match my cf.P t with
   |some _=>(lo.getD 0=0/\hi.getD 0=0)/\K .nil h
   |none=>False
  |_,_,_=>False
 | .index t x i=>match ev cf.G tm x,ev cf.G tm i with
  |some (.str s),some (.int _ i)=>match cf.P.underlying t with
   |some .string=>∃b,s[i.toNat]?=some b/\0<=i/\K (.int .u8 b.toNat) h
   |_=>False
  |some (.agg cs),some (.int _ i)=>match Nc cf.P t with
   |some (n,e,sz)=>(0<=i/\i<n)/\ ∃v,fZ cf.P e (.agg cs) (i.toNat*sz)=some v/\Qk v (K · h)
   |none=>False
  |_,_=>False
 | .pick c a b=>match ev cf.G tm c,ev cf.G tm a,ev cf.G tm b with
  |some (.bool t),some x,some y=>rC t (K x h) (K y h)
  |_,_,_=>False
 | .call {callee:=.builtin .append,args,argTypes}=>match di (ev cf.G tm) args.toList,argTypes[0]?,(argTypes[1]?).bind cf.P.underlying with
  |some [s,x],some t,some d=>(match d with| .slice _=>True| .string=>True|_=>False)/\match my cf.P t,lN h x with
   |some (_,sz),some ys=>(ys.all (jh sz))=true/\match s with
    | .nil=>rC ys.isEmpty (K .nil h) (ys.length<=bB/\K (pL h sz ys).1 (pL h sz ys).2)
    | .own id st len=>match h[id]? with
     |some (.arr jz es)=>st=0/\jz=sz/\len<=es.length/\
      rC ys.isEmpty (K (.own id 0 len) (h.set id (.arr jz (es.take len)))) (len+ys.length<=bB/\K (pL (h.set id .dead) sz (es.take len++ys)).1 (pL (h.set id .dead) sz (es.take len++ys)).2)
     |_=>False
    |_=>False
   |_,_=>False
  |_,_,_=>False
 |o=>match aV cf tm h o with
  |some (.val v h')=>K v h'
  |_=>False
def sQ:Op->Bool
 | .call {callee:=.builtin _,..}=>false
 | .call _=>true
 | .panic _=>true
 |_=>false
def VY(cf:eP)(tm:Nat->af)(h:aG)(o:Op)(K:af->aG->Prop):Prop:=
 match o with
 | .load t a=>match ev cf.G tm a with
  |some (.ptr id i off)=>∃x,h[id]?=some (.box x)/\i=0/\match fZ cf.P t x off with
   |some v=>Qk v (K · h)
   |none=>False
  |_=>Tl cf tm h (.load t a) K
 | .store t a v=>match ev cf.G tm a,ev cf.G tm v,Vm cf.P t with
  |some (.ptr id i off),some v,some (_,s)=>match Nat.decEq v.cells.length s,v.cells.all af.bQ with
   |isTrue _,true=>∃x,h[id]?=some (.box x)/\i=0/\match Ac x off v.cells with
    |some x'=>kE x' fun x'=>∀h',h'=h.set id (.box x')->K (.eT []) h'
    |none=>False
   |_,_=>False
  |_,_,_=>False
 | .alloc t=>match kK cf.P t with
  |some z=>∀k h',k=h.length->h'=h++[.box z]->K (.ptr k 0 0) h'
  |none=>False
 | .box t x=>match ev cf.G tm x with
  |some z=>∀k h',k=h.length->h'=h++[.box z]->K (.ptr k 0 0) h'
  |none=>False
 |o=>Tl cf tm h o K
def AtZ(h:aG)(id i:Nat)(R:(af->dH)->af->Prop):Prop:=
 (∃x,h[id]?=some (.box x)/\i=0/\R (fun x=>.box x) x)∨(∃sz es x,h[id]?=some (.arr sz es)/\es[i]?=some x/\R (fun x=>.arr sz (es.set i x)) x)
def Qm(P:Program)(t:TypeId)(off:Nat)(K:af->Prop)(x:af):Prop:=match fZ P t x off with
 |some v=>Qk v K
 |none=>False
def Kj(off:Nat)(cs:List af)(K:af->Prop)(x:af):Prop:=match Ac x off cs with
 |some x'=>kE x' K
 |none=>False
def Kk(h:aG)(sz:Nat)(s:af)(ys:List af)(K:af->aG->Prop):Prop:=match s with
 | .nil=>(ys=[]/\K .nil h)∨(ys≠[]/\ys.length<=bB/\ ∀k h',k=h.length->h'=h++[.arr sz ys]->K (.own k 0 ys.length) h')
 | .own id st len=>∃es,h[id]?=some (.arr sz es)/\st=0/\len<=es.length/\
   ((ys=[]/\ ∀h',h'=h.set id (.arr sz (es.take len))->K (.own id 0 len) h')∨(ys≠[]/\len+ys.length<=bB/\ ∀k h',k=h.length->h'=h.set id .dead++[.arr sz (es.take len++ys)]->K (.own k 0 (es.take len++ys).length) h'))
 |_=>False
def NH(cf:eP)(tm:Nat->af)(h:aG)(o:Op)(K:af->aG->Prop):Prop:=
 match o with
 | .load t a=>match ev cf.G tm a with
  |some (.ptr id i off)=>AtZ h id i fun _ x=>Qm cf.P t off (K · h) x
  |_=>Tl cf tm h (.load t a) K
 | .store t a v=>match ev cf.G tm a,ev cf.G tm v,Vm cf.P t with
  |some (.ptr id i off),some v,some (_,s)=>∃cs,v.cells=cs/\cs.length=s/\cs.all af.bQ=true/\AtZ h id i fun f x=>Kj off cs (fun x'=>∀h',h'=h.set id (f x')->K (.eT []) h') x
  |_,_,_=>False
 | .alloc t=>match kK cf.P t with
  |some z=>∀k h',k=h.length->h'=h++[.box z]->K (.ptr k 0 0) h'
  |none=>False
 | .box t x=>match ev cf.G tm x with
  |some z=>∀k h',k=h.length->h'=h++[.box z]->K (.ptr k 0 0) h'
  |none=>False
 | .indexAddr t x i=>match ev cf.G tm x,ev cf.G tm i with
  |some (.own id st len),some (.int _ i)=>match my cf.P t with
   |some (_,sz)=>∃es,h[id]?=some (.arr sz es)/\(0<=i/\i<len)/\K (.ptr id (st+i.toNat) 0) h
   |none=>False
  |_,_=>Tl cf tm h (.indexAddr t x i) K
 | .makeSlice t l c=>match ev cf.G tm l,ev cf.G tm c,my cf.P t with
  |some (.int _ l),some (.int _ c),some (e,sz)=>(0<=l/\l<=c/\c<=(bB:Int))/\match kK cf.P e with
   |some z=>match Nat.decEq z.cells.length sz with
    |isTrue _=>∀k h',k=h.length->h'=h++[.arr sz (List.replicate c.toNat z)]->K (.own k 0 l.toNat) h'
    |isFalse _=>False
   |none=>False
  |_,_,_=>False
 | .buildSlice t n ps=>match my cf.P t,di (fun p=>(ev cf.G tm p.2).map fun v=>(p.1,v)) ps.toList,decide (n<=4096)with
  |some (et,sz),some vs,true=>match decide (sz<=4096),kK cf.P et with
   |true,some z=>match Nat.decEq z.cells.length sz,kL (List.replicate n z) sz vs with
    |isTrue _,some es=>match n with
     |0=>K .nil h
     |_+1=>nX es fun es=>∀k h',k=h.length->h'=h++[.arr sz es]->K (.own k 0 es.length) h'
    |_,_=>False
   |_,_=>False
  |_,_,_=>False
 | .call {callee:=.builtin .append,args,argTypes}=>match di (ev cf.G tm) args.toList,argTypes[0]?,(argTypes[1]?).bind cf.P.underlying with
  |some [s,x],some t,some d=>(match d with| .slice _=>True| .string=>True|_=>False)/\match my cf.P t with
   |some (_,sz)=>∃ys,lN h x=some ys/\(ys.all (jh sz))=true/\Kk h sz s ys K
   |_=>False
  |_,_,_=>False
 |o=>Tl cf tm h o K
def wpC(r:ef)(K:af->aG->Prop)(Q:Out->Prop):Prop:=match r with
 | .ret v h=>Qk v (K · h)
 | .jI v h=>Q (.jI v h)
def Qn(y:Bool)(l:List af)(K:List af->Prop):Prop:=match y with
 |true=>K l
 |false=>nX l K
theorem Hk{y:Bool}{l:List af}{K:List af->Prop}(h:Qn y l K):K l:=by
 cases y with
 |true=>exact h
 |false=>exact jn h
def ZN(cf:eP)(y d:Bool)(o:Oper)(tm:Nat->af)(hp:aG)(K:(Nat->af)->aG->Prop)(Q:Out->Prop):Prop:=
 match sQ o.op with
 |true=>match aV cf tm hp o.op with
  |some (.call f args)=>match d&&(zC o.op&& !sB (cf.M f))with
   |true=>False
   |false=>Qn y args fun args=>∃r,cj cf (call cf) f args hp=some r/\wpC r (fun v h=>kE v fun v=>nE tm o.dst v fun tm=>K tm h) Q
  |some (.jI v)=>Q (.jI v hp)
  |_=>False
 |false=>match y with
  |true=>NH cf tm hp o.op fun v h=>kE v fun v=>nE tm o.dst v fun tm=>K tm h
  |false=>match kW o.op with
   |true=>Tl cf tm hp o.op fun v h=>kE v fun v=>nE tm o.dst v fun tm=>K tm h
   |false=>Tl cf tm hp o.op fun v h=>kE v fun v=>wo v fun v=>rD h fun h=>nE tm o.dst v fun tm=>K tm h
def Dt(cf:eP)(d:Bool)(ops:Array Oper)(o:Oper)(n:Nat)(K:(Nat->af)->aG->Prop)(tm:Nat->af)(hp:aG):Prop:=match d&&xw cf.M o.op with
 |false=>K tm hp
 |true=>match nC (((m6 ops.toList [])[ops.size-n-1]?).getD 0) (ops.toList.take (ops.size-n-1)) 0 with
  |false=>K tm hp
  |true=>nH cf ⟨tm,hp⟩ (((m6 ops.toList [])[ops.size-n-1]?).getD 0) (ops.toList.take (ops.size-n-1)) 0/\K tm hp
def VZ(cf:eP)(y d:Bool)(ops:Array Oper)(Q:Out->Prop):List Oper->(Nat->af)->aG->Prop
 | [],tm,hp=>Q (.norm ⟨tm,hp⟩)
 |o::rest,tm,hp=>match eL ops o tm with
  |none=>ZN cf y d o tm hp (Dt cf d ops o rest.length (VZ cf y d ops Q rest)) Q
  |some t=>rC t (ZN cf y d o tm hp (Dt cf d ops o rest.length (VZ cf y d ops Q rest)) Q) (nE tm o.dst (.eT []) fun tm=>VZ cf y d ops Q rest tm hp)
def Qo(pm:Nat->Nat->Nat->Option (List Nat))(id:Nat)(ops:Array Oper)(d:Bool)(K:Array Oper->Prop):Prop:=match d with
 |false=>K ops
 |true=>match pm id ops.size (((ops[0]?).bind (·.dst)).getD 0)with
  |some p=>K (pT p ops)
  |none=>K ops
theorem xK{pm:Nat->Nat->Nat->Option (List Nat)}{id:Nat}{ops:Array Oper}{d:Bool}{K:Array Oper->Prop}(h:Qo pm id ops d K):K (LU pm id ops d):=by
 unfold Qo at h;unfold LU
 cases d with
 |false=>exact h
 |true=>
  simp only at h⊢;split at h
  ·rename_i p hp;simp only[hp];exact h
  ·rename_i hp;simp only[hp];exact h
def AU(cf:eP)(y:Bool):Code->(Out->Prop)->St->Prop
 | .skip,Q,st=>Q (.norm st)
 | .region id ops d,Q,st=>match st with
  |⟨tm,hp⟩=>Qo cf.pm id ops d fun ops=>VZ cf y d ops (fun o=>match d,o with
   |true,.norm st=>Q (.norm st)
   |true,_=>False
   |false,o=>Q o) ops.toList tm hp
 | .seq a b,Q,st=>AU cf y a (fun o=>match o with
  | .norm fb=>AU cf y b Q fb
  |o=>Q o) st
 | .cond c a b,Q,st=>match ev cf.G st.tm c with
  |some (.bool t)=>rC t (AU cf y a Q st) (AU cf y b Q st)
  |_=>False
 | .block id c,Q,st=>AU cf y c (fun o=>match o with
  | .exit j fb=>match Nat.decEq j id with
   |isTrue _=>Q (.norm fb)
   |isFalse _=>Q (.exit j fb)
  |o=>Q o) st
 | .loop c,Q,st=>∃o,je cf c st=some o/\Q o
 | .exit id,Q,st=>Q (.exit id st)
 | .scope c,Q,st=>AU cf y c Q st
 | .label _,Q,st=>Q (.norm st)
 | .ret,Q,st=>Q (.ret st)
 |_,_,_=>False
abbrev wpA(cf:eP):Code->(Out->Prop)->St->Prop:=AU cf false
def Yu(cf:eP)(f:FuncId)(args:List af)(h:aG)(Q:ef->Prop):Prop:=
 match cf.P.funcs[f]? with
 |some fn=>match fn.body with
  |some c=>wpA cf c (fun o=>match qx cf.P fn (some o)with
   |some r=>Q r
   |none=>False) ⟨lP args,h⟩
  |none=>False
 |none=>False
theorem mL{cf:eP}{tm:Nat->af}{h:aG}{o:Op}{K:af->aG->Prop}(hw:Tl cf tm h o K): ∃v h',aV cf tm h o=some (.val v h')/\K v h':=by
 unfold Tl at hw;split at hw
 ·-- indexAddr
  rename_i t x i;split at hw
  ·rename_i xs k i hx hi;split at hw
   ·rename_i e sz hs;obtain⟨y,hy,h0,hc,hk⟩:=hw;exact⟨_,_,by simp only[aV,hx,hi,vH,hs,hy];rw[if_pos ⟨h0,hc⟩];rfl,hk⟩
   ·exact hw.elim
  ·rename_i id st len k i hx hi;split at hw
   ·rename_i e sz jz es hs ho;obtain⟨⟨h0,h1⟩,hc,hk⟩:=hw;exact⟨_,_,by simp only[aV,hx,hi,vH,hs,ho];rw[if_pos ⟨h0,h1,hc⟩];rfl,hk⟩
   ·exact hw.elim
  ·rename_i x k i _ _ hx hi;split at hw
   ·rename_i v hv;exact⟨v,h,by simp only[aV,hx,hi,hv];rfl,hw⟩
   ·exact hw.elim
  ·exact hw.elim
 ·-- load
  rename_i t a;split at hw
  ·rename_i id i off ha;split at hw
   ·rename_i x ho;split at hw
    ·rename_i AB v _ hv;exact⟨v,h,by simp only[aV,ha,ku,ho,AB,if_true,hv];rfl,jU hw⟩
    ·exact hw.elim
   ·rename_i sz es ho;obtain⟨x,hx,hw⟩:=hw;split at hw
    ·rename_i v hv;exact⟨v,h,by simp only[aV,ha,ku,ho,hx,hv];rfl,jU hw⟩
    ·exact hw.elim
   ·exact hw.elim
  ·rename_i xs i off ha;split at hw
   ·rename_i x hx;split at hw
    ·rename_i v hv;exact⟨v,h,by simp only[aV,ha,ku,hx,hv];rfl,jU hw⟩
    ·exact hw.elim
   ·exact hw.elim
  ·exact hw.elim
 ·-- binOp
  rename_i op t x y t2;split at hw
  ·rename_i a b ha hb;obtain⟨v,hv,hw⟩:=Ki hw;exact⟨v,h,by simp only[aV,ha,hb,hv];rfl,hw⟩
  ·exact hw.elim
 ·-- store
  rename_i t a v;split at hw
  ·rename_i id i off v s ha hv ht;split at hw
   ·rename_i hl _ aF;split at hw
    ·rename_i x ho;split at hw
     ·rename_i AB x' _ vS;exact⟨_,_,by simp only[aV,ha,hv,sA,ht];rw[if_pos ⟨hl,aF⟩];simp only[ho,AB,if_true,vS,aaL],gG (K:=fun x'=>K (.eT []) (h.set _ (.box x'))) hw⟩
     ·exact hw.elim
    ·rename_i sz es ho;obtain⟨x,hx,hw⟩:=hw;split at hw
     ·rename_i x' vS;exact⟨_,_,by simp only[aV,ha,hv,sA,ht];rw[if_pos ⟨hl,aF⟩];simp only[ho,hx,vS,aaL],hw⟩
     ·exact hw.elim
    ·exact hw.elim
   ·exact hw.elim
  ·exact hw.elim
 ·-- lookup
  rename_i t m k ok;split at hw
  ·rename_i ks vs k' kt et hm hk SO;split at hw
   ·rename_i z Nn hz;rcases Hj ks vs 0 _ hw with⟨i,v,h1,h2,h3⟩|⟨h1,h2⟩
    ·rw[aaK]at h1
     cases ok with
     |true=>exact⟨_,_,by simp only[aV,hm,hk,yB,SO,Nn,if_true,h1,h2];rfl,h3⟩
     |false=>exact⟨_,_,by simp only[aV,hm,hk,yB,SO,Nn,if_true,h1,h2];rfl,h3⟩
    ·cases ok with
     |true=>exact⟨_,_,by simp only[aV,hm,hk,yB,SO,Nn,if_true,h1,hz];rfl,h2⟩
     |false=>exact⟨_,_,by simp only[aV,hm,hk,yB,SO,Nn,if_true,h1,hz];rfl,h2⟩
   ·exact hw.elim
  ·rename_i m' k' q _ hm hk SO;split at hw
   ·rename_i v hv;exact⟨v,h,by simp only[aV,hm,hk,hv];rfl,hw⟩
   ·exact hw.elim
  ·exact hw.elim
 ·-- makeSlice
  rename_i t l c;split at hw
  ·rename_i kl l' kc c' e sz hl hc hs;obtain⟨hb,hw⟩:=hw;split at hw
   ·rename_i z hz;split at hw
    ·rename_i xD _;exact⟨_,_,by simp only[aV,hl,hc,Gn,hs];rw[if_pos hb];simp only[hz];rw[if_pos xD];rfl,hw⟩
    ·exact hw.elim
   ·exact hw.elim
  ·exact hw.elim
 ·-- buildSlice
  rename_i t n ps;split at hw
  ·rename_i et sz vs hs hv hn;split at hw
   ·rename_i z jP hz;split at hw
    ·rename_i Ge es _ Vz;have he:aV cf tm h (.buildSlice t n ps)=some (.val (mW h sz n es).1 (mW h sz n es).2):=by simp only[aV,hs,hv];rw[if_pos ⟨of_decide_eq_true hn,of_decide_eq_true jP⟩];simp only[hz];rw[if_pos Ge];simp only[Vz]
     cases n with
     |zero=>exact⟨_,_,he,hw⟩
     |succ n=>exact⟨_,_,he,jn (K:=fun es=>K (pL h sz es).1 (pL h sz es).2) hw⟩
    ·exact hw.elim
   ·exact hw.elim
  ·exact hw.elim
 ·-- slice
  rename_i t x lo hi;split at hw
  ·rename_i s Mc qz hx zQ L9;split at hw
   ·rename_i hu;obtain⟨hb,hw⟩:=hw;exact⟨_,_,by simp only[aV,hx,zQ,L9,nA,hu];rw[if_pos hb];rfl,hw⟩
   ·exact hw.elim
  ·rename_i xs Mc qz hx zQ L9;split at hw
   ·rename_i e sz hs;obtain⟨hb,hw⟩:=hw;exact⟨_,_,by simp only[aV,hx,zQ,L9,nA,hs];rw[if_pos hb];rfl,hw⟩
   ·exact hw.elim
  ·rename_i id st len Mc qz hx zQ L9;split at hw
   ·rename_i e sz jz es hs ho;obtain⟨hb,hw⟩:=hw;exact⟨_,_,by simp only[aV,hx,zQ,L9,nA,hs,ho];rw[if_pos hb];rfl,hw⟩
   ·exact hw.elim
  ·rename_i Mc qz hx zQ L9;split at hw
   ·rename_i q hs;obtain⟨hb,hw⟩:=hw;exact⟨_,_,by simp only[aV,hx,zQ,L9,nA,hs];rw[if_pos hb];rfl,hw⟩
   ·exact hw.elim
  ·exact hw.elim
 ·-- index
  rename_i t x i;split at hw
  ·rename_i s k i' hx hi;split at hw
   ·rename_i hu;obtain⟨b,hb,h0,hw⟩:=hw;exact⟨_,_,by simp only[aV,hx,hi,Ag,hu];rw[if_pos h0];simp only[hb];rfl,hw⟩
   ·exact hw.elim
  ·rename_i cs k i' hx hi;split at hw
   ·rename_i n e sz ha;obtain⟨hb,v,hv,hw⟩:=hw;exact⟨v,h,by simp only[aV,hx,hi,Ag,ha];rw[if_pos hb];simp only[hv];rfl,jU hw⟩
   ·exact hw.elim
  ·exact hw.elim
 ·-- pick
  rename_i c a b;split at hw
  ·rename_i t x y hc ha hb;rcases fT hw with⟨rfl,hw⟩|⟨rfl,hw⟩
   ·exact⟨_,_,by simp only[aV,hc,ha,hb];rfl,hw⟩
   ·exact⟨_,_,by simp only[aV,hc,ha,hb];rfl,hw⟩
  ·exact hw.elim
 ·-- append
  rename_i args argTypes;split at hw
  ·rename_i s x t d ha ht hd;obtain⟨UN,hw⟩:=hw;split at hw
   ·rename_i e sz ys hs hy;obtain⟨aF,hw⟩:=hw
    have key: ∀r,ji cf.P t s x h=some r->aV cf tm h (.call {callee:=.builtin .append,args,argTypes})=some (.val r.1 r.2):=by
     intro r hr;simp only[aV,dG,ha,ht,hd];cases d<;>simp_all
    split at hw
    ·rcases fT hw with⟨he,hw⟩|⟨he,hl,hw⟩
     ·have AD:ys=[]:=by simpa using he
      exact⟨_,_,key (.nil,h) (by subst AD;simp[ji,hs,hy]),hw⟩
     ·have AD:ys≠[]:=by intro e;simp[e]at he
      exact⟨_,_,key (pL h sz ys) (by simp only[ji,hs,hy,aF,if_true];rw[if_neg AD,if_pos hl]),hw⟩
    ·rename_i id st len;split at hw
     ·rename_i jz es ho;obtain⟨h0,h1,h2,hw⟩:=hw;rcases fT hw with⟨he,hw⟩|⟨he,hl,hw⟩
      ·have AD:ys=[]:=by simpa using he
       exact⟨_,_,key (.own id 0 len,h.set id (.arr jz (es.take len))) (by simp only[ji,hs,hy,aF,if_true,ho];rw[if_pos ⟨h0,h1,h2⟩,if_pos AD]),hw⟩
      ·have AD:ys≠[]:=by intro e;simp[e]at he
       exact⟨_,_,key (pL (h.set id .dead) sz (es.take len++ys)) (by simp only[ji,hs,hy,aF,if_true,ho];rw[if_pos ⟨h0,h1,h2⟩,if_neg AD,if_pos hl]),hw⟩
     ·exact hw.elim
    ·exact hw.elim
   ·exact hw.elim
  ·exact hw.elim
 ·split at hw
  ·rename_i v h' hv;exact⟨v,h',hv,hw⟩
  ·exact hw.elim
theorem Kl{cf:eP}{tm:Nat->af}{h:aG}{o:Op}{K:af->aG->Prop}(hw:VY cf tm h o K): ∃v h',aV cf tm h o=some (.val v h')/\K v h':=by
 unfold VY at hw;split at hw
 ·rename_i t a;split at hw
  ·rename_i id i off ha;obtain⟨x,ho,AB,hw⟩:=hw;split at hw
   ·rename_i v hv;exact⟨v,h,by simp only[aV,ha,ku,ho,AB,if_true,hv];rfl,jU hw⟩
   ·exact hw.elim
  ·exact mL hw
 ·rename_i t a v;split at hw
  ·rename_i id i off v _ s ha hv ht;split at hw
   ·rename_i hl _ aF;obtain⟨x,ho,AB,hw⟩:=hw;split at hw
    ·rename_i x' vS;exact⟨_,_,by simp only[aV,ha,hv,sA,ht];rw[if_pos ⟨hl,aF⟩];simp only[ho,AB,if_true,vS,aaL],gG (K:=fun x'=>∀h',h'=h.set _ (.box x')->K (.eT []) h') hw _ rfl⟩
    ·exact hw.elim
   ·exact hw.elim
  ·exact hw.elim
 ·rename_i t;split at hw
  ·rename_i z hz;exact⟨_,_,by simp only[aV,hz];rfl,hw _ _ rfl rfl⟩
  ·exact hw.elim
 ·rename_i t x;split at hw
  ·rename_i z hz;exact⟨_,_,by simp only[aV,hz];rfl,hw _ _ rfl rfl⟩
  ·exact hw.elim
 ·exact mL hw
theorem rE{cf:eP}{tm:Nat->af}{h:aG}{o:Op}{K:af->aG->Prop}(hw:NH cf tm h o K): ∃v h',aV cf tm h o=some (.val v h')/\K v h':=by
 unfold NH at hw;split at hw
 ·-- load
  rename_i t a;split at hw
  ·rename_i id i off ha;rcases hw with⟨x,ho,AB,hw⟩|⟨sz,es,x,ho,AB,hw⟩
   ·unfold Qm at hw;split at hw
    ·rename_i v hv;exact⟨v,h,by simp only[aV,ha,ku,ho,AB,if_true,hv];rfl,jU hw⟩
    ·exact hw.elim
   ·unfold Qm at hw;split at hw
    ·rename_i v hv;exact⟨v,h,by simp only[aV,ha,ku,ho,AB,hv];rfl,jU hw⟩
    ·exact hw.elim
  ·exact mL hw
 ·-- store
  rename_i t a v;split at hw
  ·rename_i id i off v _ s ha hv ht;obtain⟨cs,sL,hl,aF,hw⟩:=hw;subst sL;rcases hw with⟨x,ho,AB,hw⟩|⟨sz,es,x,ho,AB,hw⟩
   ·unfold Kj at hw;split at hw
    ·rename_i x' vS;exact⟨_,_,by simp only[aV,ha,hv,sA,ht];rw[if_pos ⟨hl,aF⟩];simp only[ho,AB,if_true,vS,aaL],gG (K:=fun x'=>∀h',h'=h.set _ (.box x')->K (.eT []) h') hw _ rfl⟩
    ·exact hw.elim
   ·unfold Kj at hw;split at hw
    ·rename_i x' vS;exact⟨_,_,by simp only[aV,ha,hv,sA,ht];rw[if_pos ⟨hl,aF⟩];simp only[ho,AB,vS,aaL],gG (K:=fun x'=>∀h',h'=h.set _ (.arr sz (es.set i x'))->K (.eT []) h') hw _ rfl⟩
    ·exact hw.elim
  ·exact hw.elim
 ·rename_i t;split at hw
  ·rename_i z hz;exact⟨_,_,by simp only[aV,hz];rfl,hw _ _ rfl rfl⟩
  ·exact hw.elim
 ·rename_i t x;split at hw
  ·rename_i z hz;exact⟨_,_,by simp only[aV,hz];rfl,hw _ _ rfl rfl⟩
  ·exact hw.elim
 ·-- indexAddr
  rename_i t x i;split at hw
  ·rename_i id st len _ i hx hi;split at hw
   ·rename_i e sz hs;obtain⟨es,ho,hb,hw⟩:=hw;exact⟨_,_,by simp only[aV,hx,hi,vH,hs,ho];rw[if_pos ⟨hb.1,hb.2,trivial⟩];rfl,hw⟩
   ·exact hw.elim
  ·exact mL hw
 ·-- makeSlice
  rename_i t l c;split at hw
  ·rename_i _ l _ c e sz hl hc hs;obtain⟨hb,hw⟩:=hw;split at hw
   ·rename_i z hz;split at hw
    ·rename_i xD _;exact⟨_,_,by simp only[aV,hl,hc,Gn,hs];rw[if_pos hb];simp only[hz];rw[if_pos xD];rfl,hw _ _ rfl rfl⟩
    ·exact hw.elim
   ·exact hw.elim
  ·exact hw.elim
 ·-- buildSlice
  rename_i t n ps;split at hw
  ·rename_i et sz vs hs hv hn;split at hw
   ·rename_i z jP hz;split at hw
    ·rename_i Ge es _ Vz;have he:aV cf tm h (.buildSlice t n ps)=some (.val (mW h sz n es).1 (mW h sz n es).2):=by simp only[aV,hs,hv];rw[if_pos ⟨of_decide_eq_true hn,of_decide_eq_true jP⟩];simp only[hz];rw[if_pos Ge];simp only[Vz]
     cases n with
     |zero=>exact⟨_,_,he,hw⟩
     |succ n=>exact⟨_,_,he,jn (K:=fun es=>∀k h',k=h.length->h'=h++[.arr sz es]->K (.own k 0 es.length) h') hw _ _ rfl rfl⟩
    ·exact hw.elim
   ·exact hw.elim
  ·exact hw.elim
 ·-- append
  rename_i args argTypes;split at hw
  ·rename_i s x t d ha ht hd;obtain⟨UN,hw⟩:=hw;split at hw
   ·rename_i e sz hs;obtain⟨ys,hy,aF,hw⟩:=hw;unfold Kk at hw
    have key: ∀r,ji cf.P t s x h=some r->aV cf tm h (.call {callee:=.builtin .append,args,argTypes})=some (.val r.1 r.2):=by
     intro r hr;simp only[aV,dG,ha,ht,hd];cases d<;>simp_all
    split at hw
    ·rcases hw with⟨he,hw⟩|⟨he,hl,hw⟩
     ·exact⟨_,_,key (.nil,h) (by subst he;simp[ji,hs,hy]),hw⟩
     ·exact⟨_,_,key (pL h sz ys) (by simp only[ji,hs,hy,aF,if_true];rw[if_neg he,if_pos hl]),hw _ _ rfl rfl⟩
    ·rename_i id st len;obtain⟨es,ho,h0,h2,hw⟩:=hw;rcases hw with⟨he,hw⟩|⟨he,hl,hw⟩
     ·exact⟨_,_,key (.own id 0 len,h.set id (.arr sz (es.take len))) (by simp only[ji,hs,hy,aF,if_true,ho];rw[if_pos ⟨h0,trivial,h2⟩,if_pos he]),hw _ rfl⟩
     ·exact⟨_,_,key (pL (h.set id .dead) sz (es.take len++ys)) (by simp only[ji,hs,hy,aF,if_true,ho];rw[if_pos ⟨h0,trivial,h2⟩,if_neg he,if_pos hl]),hw _ _ (by simp) rfl⟩
    ·exact hw.elim
   ·exact hw.elim
  ·exact hw.elim
 ·exact mL hw
theorem Du{cf:eP}{y d:Bool}{o:Oper}{tm:Nat->af}{hp:aG}{K:(Nat->af)->aG->Prop}{K':St->Option Out}{Q:Out->Prop}(hK: ∀tm hp,K tm hp-> ∃r,K' ⟨tm,hp⟩=some r/\Q r)(hw:ZN cf y d o tm hp K Q):
  ∃r,fM cf (call cf) d o ⟨tm,hp⟩ K'=some r/\Q r:=by
   have open_: ∀{v:af}{h:aG},(kE v fun v=>wo v fun v=>rD h fun h=>nE tm o.dst v fun tm=>K tm h)->K (jL tm o.dst v) h:=by
    intro v h hh;exact jJ (K:=fun tm=>K tm h) (m8 (K:=fun h=>nE tm o.dst v fun tm=>K tm h) (EC (K:=fun v=>rD h fun h=>nE tm o.dst v fun tm=>K tm h) (gG (K:=fun v=>wo v fun v=>rD h fun h=>nE tm o.dst v fun tm=>K tm h) hh)))
   have Qp: ∀{v:af}{h:aG},(kE v fun v=>nE tm o.dst v fun tm=>K tm h)->K (jL tm o.dst v) h:=by
    intro v h hh;exact jJ (K:=fun tm=>K tm h) (gG (K:=fun v=>nE tm o.dst v fun tm=>K tm h) hh)
   unfold ZN at hw;split at hw
   ·split at hw
    ·rename_i f args hv;split at hw
     ·exact hw.elim
     ·rename_i hg;obtain⟨r,hr,hw⟩:=Hk hw
      cases r with
      |ret v h=>
       obtain⟨r,h1,h2⟩:=hK _ _ (Qp (jU (K:=fun v=>kE v fun v=>nE tm o.dst v fun tm=>K tm h) hw))
       exact⟨r,by unfold fM;simp only[hv,hg,hr];exact h1,h2⟩
      |jI v h=>exact⟨.jI v h,by unfold fM;simp only[hv,hg,hr],hw⟩
    ·rename_i v hv;exact⟨.jI v hp,by unfold fM;simp only[hv],hw⟩
    ·exact hw.elim
   ·have key: ∃v h',aV cf tm hp o.op=some (.val v h')/\K (jL tm o.dst v) h':=by
     split at hw
     ·obtain⟨v,h',hv,hk⟩:=rE hw;exact⟨v,h',hv,Qp hk⟩
     ·split at hw
      ·obtain⟨v,h',hv,hk⟩:=mL hw;exact⟨v,h',hv,Qp hk⟩
      ·obtain⟨v,h',hv,hk⟩:=mL hw;exact⟨v,h',hv,open_ hk⟩
    obtain⟨v,h',hv,hk⟩:=key;obtain⟨r,h1,h2⟩:=hK _ _ hk;exact⟨r,by unfold fM;simp only[hv];exact h1,h2⟩
theorem Km{cf:eP}{tm:Nat->af}{h:aG}{o:Op}(hp:kW o=true){r:JD}(hr:aV cf tm h o=some r): ∃v,r= .val v h:=by
 cases o<;>simp only[kW]at hp<;>try(cases hp)
 all_goals simp only[aV]at hr
 case move x=>cases hx:ev cf.G tm x<;>simp[hx]at hr;exact⟨_,hr.symm⟩
 case assign x=>cases hx:ev cf.G tm x<;>simp[hx]at hr;exact⟨_,hr.symm⟩
 case pick c a b=>split at hr<;>simp at hr;exact⟨_,hr.symm⟩
 case load t a=>split at hr<;>simp at hr;obtain⟨a,_,rfl⟩:=hr;exact⟨_,rfl⟩
 case binOp=>split at hr<;>simp at hr;obtain⟨a,_,rfl⟩:=hr;exact⟨_,rfl⟩
 case unOp=>split at hr<;>simp at hr;obtain⟨a,_,rfl⟩:=hr;exact⟨_,rfl⟩
 case convert=>split at hr<;>simp at hr;obtain⟨a,_,rfl⟩:=hr;exact⟨_,rfl⟩
 case fieldAddr=>split at hr<;>simp at hr<;>exact⟨_,hr.symm⟩
 case field=>split at hr<;>simp at hr;obtain⟨a,_,rfl⟩:=hr;exact⟨_,rfl⟩
 case indexAddr=>split at hr<;>simp at hr;obtain⟨a,_,rfl⟩:=hr;exact⟨_,rfl⟩
 case index=>split at hr<;>simp at hr;obtain⟨a,_,rfl⟩:=hr;exact⟨_,rfl⟩
 case lookup=>split at hr<;>simp at hr;obtain⟨a,_,rfl⟩:=hr;exact⟨_,rfl⟩
 case extract=>split at hr<;>simp at hr;obtain⟨a,_,rfl⟩:=hr;exact⟨_,rfl⟩
 case call c=>
  obtain⟨callee,args,ui⟩:=c
  cases callee with
  |value f=>cases hp
  |invoke r m=>cases hp
  |builtin b=>
   cases b<;>simp only at hp<;>try(cases hp)
   simp only[dG]at hr
   cases ha:di (ev cf.G tm) args.toList with
   |none=>simp[ha]at hr
   |some as=>
    simp only[ha]at hr
    match as,hr with
    | [x],hr=>
     simp only at hr;split at hr
     ·split at hr<;>simp at hr<;>exact⟨_,hr.symm⟩
     ·split at hr<;>simp at hr<;>exact⟨_,hr.symm⟩
     ·split at hr<;>simp at hr<;>exact⟨_,hr.symm⟩
     ·cases hr
    | [],hr=>cases hr
    |_::_::_,hr=>cases hr
theorem uP{cf:eP}{d:Bool}{o:Oper}{st:St}{K:St->Option Out}{r:Out}(hp:kW o.op=true)(h:fM cf (call cf) d o st K=some r):
  ∃v,aV cf st.tm st.hp o.op=some (.val v st.hp)/\K ⟨jL st.tm o.dst v,st.hp⟩=some r:=by
   unfold fM at h
   cases ho:aV cf st.tm st.hp o.op with
   |none=>simp[ho]at h
   |some q=>
    obtain⟨v,rfl⟩:=Km hp ho;simp only[ho]at h;exact⟨v,rfl,h⟩
theorem p9{cf:eP}{d:Bool}{ops:Array Oper}{o:Oper}{n:Nat}{K:(Nat->af)->aG->Prop}{K':St->Option Out}{Q:Out->Prop}(hK: ∀tm hp,K tm hp-> ∃r,K' ⟨tm,hp⟩=some r/\Q r)(tm:Nat->af)(hp:aG)
  (h:Dt cf d ops o n K tm hp): ∃r,mC cf d ops o n K' ⟨tm,hp⟩=some r/\Q r:=by
   unfold Dt at h;unfold mC;split at h
   ·rename_i hc;simp only[hc];exact hK _ _ h
   ·rename_i hc;simp only[hc];split at h
    ·rename_i hq;simp only[hq];exact hK _ _ h
    ·rename_i hq;simp only[hq];unfold CX;rw[if_pos h.1];exact hK _ _ h.2
theorem NI{cf:eP}{y d:Bool}{ops:Array Oper}{Q:Out->Prop}: ∀(l:List Oper)(tm:Nat->af)(hp:aG),VZ cf y d ops Q l tm hp-> ∃o,kB cf (call cf) d ops l ⟨tm,hp⟩=some o/\Q o:=by
 intro l
 induction l with
 |nil=>intro tm hp h;exact⟨_,rfl,h⟩
 |cons o rest ih=>
  intro tm hp h;unfold VZ at h;simp only[kB]
  cases hg:eL ops o tm with
  |none=>simp only[hg]at h⊢;exact Du (p9 ih) h
  |some t=>
   simp only[hg]at h⊢;rcases fT h with⟨rfl,h⟩|⟨rfl,h⟩
   ·obtain⟨r,h1,h2⟩:=Du (p9 ih) h
    by_cases hp:kW o.op=true
    ·rw[if_pos hp];obtain⟨v,hv,hk⟩:=uP hp h1;have hk:=(lO hk).1;exact⟨r,by simp only[Gp,hv];exact hk,h2⟩
    ·rw[if_neg hp];exact⟨r,h1,h2⟩
   ·obtain⟨r,h1,h2⟩:=ih _ _ (jJ (K:=fun tm=>VZ cf y d ops Q rest tm hp) h)
    by_cases hp:kW o.op=true
    ·rw[if_pos hp];exact⟨r,h1,h2⟩
    ·rw[if_neg hp];exact⟨r,h1,h2⟩
theorem xM{cf:eP}{y:Bool}: ∀(c:Code)(Q:Out->Prop)(st:St),AU cf y c Q st-> ∃o,cQ cf (call cf) (je cf) c st=some o/\Q o:=by
 intro c
 induction c with
 |skip=>intro Q st h;exact⟨_,rfl,h⟩
 |region id ops d=>
  intro Q st h;simp only[AU]at h;replace h:=xK h;obtain⟨o,ho,hq⟩:=NI _ _ _ h;refine⟨o,?_,?_⟩
  ·simp only[cQ,ho]
   cases d with
   |false=>rfl
   |true=>cases o<;>first|rfl|exact hq.elim
  ·cases d with
   |false=>cases o<;>exact hq
   |true=>cases o<;>first|exact hq|exact hq.elim
 |seq a b sC sD=>
  intro Q st h;obtain⟨o,ho,h⟩:=sC _ _ h;simp only[cQ,ho]
  cases o with
  |norm fb=>exact sD _ _ h
  |exit j s=>exact⟨_,rfl,h⟩
  |ret s=>exact⟨_,rfl,h⟩
  |jI v hp=>exact⟨_,rfl,h⟩
 |cond c a b sC sD=>
  intro Q st h;simp only[AU]at h;split at h
  ·rename_i t ht;simp only[cQ,ht];rcases fT h with⟨rfl,h⟩|⟨rfl,h⟩
   ·exact sC _ _ h
   ·exact sD _ _ h
  ·exact h.elim
 |block id c ih=>
  intro Q st h;obtain⟨o,ho,h⟩:=ih _ _ h;simp only[cQ,ho]
  cases o with
  |norm fb=>exact⟨_,rfl,h⟩
  |exit j s=>
   simp only at h
   by_cases e:j=id
   ·simp only[if_pos e]
    cases hd:Nat.decEq j id with
    |isTrue _=>simp only[hd]at h;exact⟨_,rfl,h⟩
    |isFalse n=>exact(n e).elim
   ·simp only[if_neg e]
    cases hd:Nat.decEq j id with
    |isTrue y=>exact(e y).elim
    |isFalse n=>simp only[hd]at h;exact⟨_,rfl,h⟩
  |ret s=>exact⟨_,rfl,h⟩
  |jI v hp=>exact⟨_,rfl,h⟩
 |loop c ih=>intro Q st h;exact h
 |exit id=>intro Q st h;exact⟨_,rfl,h⟩
 |scope c ih=>intro Q st h;exact ih _ _ h
 |label l=>intro Q st h;exact⟨_,rfl,h⟩
 |ret=>intro Q st h;exact⟨_,rfl,h⟩
 |rangeFunc f p a b _ _=>intro Q st h;exact h.elim
 |goto l=>intro Q st h;exact h.elim
 |refuse w=>intro Q st h;exact h.elim
theorem Dv{cf:eP}{f:FuncId}{args:List af}{h:aG}{Q:ef->Prop}(hp:cf.pr f=none)(hw:Yu cf f args h Q): ∃r,call cf f args h=some r/\Q r:=by
 unfold Yu at hw;rw[vK];unfold nJ;simp only[hp];split at hw
 ·rename_i fn hf;simp only[hf];split at hw
  ·rename_i c hc;simp only[hc];obtain⟨o,ho,hq⟩:=xM _ _ _ hw;simp only[ho];split at hq
   ·rename_i r hr;exact⟨r,hr,hq⟩
   ·exact hq.elim
  ·exact hw.elim
 ·exact hw.elim
theorem AV{cf:eP}(y:Bool){c:Code}{Q:Out->Prop}(I:Nat->St->Prop)
  (round: ∀n st,I n st->AU cf y c (fun o=>match o with| .norm fb=>∃m,m<n/\I m fb|o=>Q o) st): ∀n st,I n st-> ∃o,je cf c st=some o/\Q o:=by
   intro n
   induction n using Nat.strongRecOn with
   |_ n ih=>
    intro st hI;obtain⟨o,ho,h⟩:=xM _ _ _ (round n st hI);rw[vL];unfold iN;simp only[ho]
    cases o with
    |norm fb=>obtain⟨m,hm,V0⟩:=h;exact ih m hm _ V0
    |exit j s=>exact⟨_,rfl,h⟩
    |ret s=>exact⟨_,rfl,h⟩
    |jI v hp=>exact⟨_,rfl,h⟩
theorem eD{cf:eP}{c:Code}{Q:Out->Prop}(I:Nat->St->Prop)
  (round: ∀n st,I n st->wpA cf c (fun o=>match o with| .norm fb=>∃m,m<n/\I m fb|o=>Q o) st): ∀n st,I n st-> ∃o,je cf c st=some o/\Q o:=AV false I round
theorem dh{cf:eP}{c:Code}{Q:Out->Prop}{st:St}(h:wpA cf c (fun o=>match o with| .norm fb=>∃o,je cf c fb=some o/\Q o|o=>Q o) st): ∃o,je cf c st=some o/\Q o:=by
 obtain⟨o,ho,h⟩:=xM _ _ _ h;rw[vL];unfold iN;simp only[ho]
 cases o with
 |norm fb=>exact h
 |exit j s=>exact⟨_,rfl,h⟩
 |ret s=>exact⟨_,rfl,h⟩
 |jI v hp=>exact⟨_,rfl,h⟩
end Go.Am

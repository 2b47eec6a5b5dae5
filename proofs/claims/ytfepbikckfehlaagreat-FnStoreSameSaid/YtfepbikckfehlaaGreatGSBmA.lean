/- The abstract machine 'Am': the Code of the model over values in the place of memory. Definitions; that the limits unfold. No Go here. -/
import Derived.Calls
import Derived.Scope
import Derived.Orders
set_option linter.unusedVariables false
set_option linter.unusedSimpArgs false
set_option maxHeartbeats 4000000
namespace Go.Am
abbrev nM:= @Option.map_eq_some_iff
abbrev xz:= @Bool.and_eq_true
abbrev aaa:= @Int.toNat_natCast
abbrev aab:= @List.getElem?_eq_getElem
abbrev aag:= @List.getElem?_eq_some_iff
abbrev aaf:= @List.drop_eq_getElem_cons
abbrev aac:= @List.getElem_mem
abbrev aah:= @Nat.le_refl
abbrev aak:= @List.length_cons
abbrev aao:= @List.map_cons
abbrev aal:= @List.drop_length
abbrev aat:= @List.length_map
abbrev aaq:= @List.mem_of_getElem?
abbrev aar:= @List.take_length
abbrev aaw:= @List.append_nil
abbrev aay:= @Bool.true_and
abbrev aaz:= @List.mem_cons
abbrev aaC:= @IntKind.wrap_i64
abbrev aaD:= @List.map_append
abbrev aaK:= @Nat.zero_add
abbrev aaL:= @Option.map_some
abbrev aaO:= @List.mem_map
abbrev aaM:= @List.length_eq_zero_iff
abbrev aaN:= @List.getElem?_append_left
abbrev aaj:= @List.all_eq_true
abbrev aaS:= @List.mem_append
abbrev aa3:= @Nat.le_trans
abbrev aaE:= @Result.andThen_ok
abbrev aaR:= @Array.getElem?_eq_some_iff
abbrev aaQ:= @List.getElem?_append_right
abbrev aa2:= @List.prefix_refl
abbrev aa1:= @Nat.mul_le_mul_right
abbrev aaT:= @List.getElem?_cons_zero
abbrev aa7:= @Sem.run_bind
abbrev aba:= @List.getElem?_map
abbrev abb:= @Array.getElem?_eq_getElem
abbrev abc:= @Nat.lt_of_lt_of_le
abbrev abi:= @List.all_cons
abbrev abd:= @List.getElem?_cons_succ
abbrev abj:= @List.length_nil
abbrev abr:= @List.append_assoc
abbrev abv:= @List.length_append
abbrev abt:= @List.take_of_length_le
abbrev aby:= @List.getElem?_take
abbrev abz:= @List.mem_of_mem_take
abbrev abA:= @List.map_nil
abbrev abJ:= @List.getElem?_set_ne
abbrev abD:= @List.cons_append
abbrev abo:= @List.sizeOf_lt_of_mem
abbrev abC:= @Option.bind_eq_some_iff
abbrev abH:= @List.length_filter_le
abbrev abI:= @Nat.add_assoc
open Go
inductive af where
 |int (k:IntKind) (n:Int)
 |bool (b:Bool)
 |str (s:ByteArray)
 |nil
 |sl (xs:List af)
 |fQ (xs:List af) (i off:Nat)
 |sx
 |qY
 |zB
 |qZ
 |own (id st len:Nat)
 |ptr (id i off:Nat)
 |map (id:Nat)
 |oo (ks vs:List af)
 |it (id:Nat)
 |func (fn:Fn) (first captured:List af)
 |iface (t:TypeId) (v:af)
 |gv (g:Nat) (t:TypeId)
 |agg (cs:List af)
 |eT (vs:List af)
instance:Inhabited af:=⟨.nil⟩
def af.cells:af->List af
 | .agg cs=>cs
 |v=>[v]
def af.bQ:af->Bool
 | .agg _=>false
 | .eT _=>false
 |_=>true
def af.isScalar:af->Bool
 | .int _ _=>true
 | .bool _=>true
 | .str _=>true
 |_=>false
def af.Sz:af->Bool
 | .eT vs=>vs.all af.isScalar
 |v=>v.isScalar
inductive dH where
 |box (x:af)
 |arr (sz:Nat) (es:List af)
 |qv (ks vs:List af)
 |iter (s:ByteArray) (pos:Nat)
 |dead
abbrev aG:=List dH
structure St where
 tm:Nat->af
 hp:aG
inductive ef where
 |ret (v:af) (h:aG)
 |jI (v:af) (h:aG)
inductive Out where
 |norm (st:St)
 |exit (id:Nat) (st:St)
 |ret (st:St)
 |jI (v:af) (h:aG)
inductive JD where
 |val (v:af) (h:aG)
 |call (f:FuncId) (args:List af)
 |jI (v:af)
inductive Mode where
 |P|X|F|N|K|R|V
abbrev q0:=FuncId->List af->aG->Option ef
abbrev O6:=Code->St->Option Out
structure eP where
 P:Program
 M:FuncId->Mode
 pr:FuncId->Option (List af->aG->Option ef)
 G:Nat->Option af
 pm:Nat->Nat->Nat->Option (List Nat)
def mG(p:List Nat)(o:Oper):Oper:={o with after:=(o.after.toList.map fun e=>{e with on:=p.idxOf e.on}).toArray,guard:=o.guard.map fun g=>(p.idxOf g.1,g.2)}
def lM(p:List Nat)(ops:Array Oper):List Nat->List Oper
 | []=>[]
 |i::is=>match ops[i]? with
  |some o=>mG p o::lM p ops is
  |none=>lM p ops is
def pT(p:List Nat)(ops:Array Oper):Array Oper:=(lM p ops p).toArray
def LU(pm:Nat->Nat->Nat->Option (List Nat))(id:Nat)(ops:Array Oper)(d:Bool):Array Oper:=match d with
 |false=>ops
 |true=>match pm id ops.size (((ops[0]?).bind (·.dst)).getD 0)with
  |some p=>pT p ops
  |none=>ops
def fX(tm:Nat->af)(d:Nat)(v:af):Nat->af:=fun k=>if k=d then v else tm k
def jL(tm:Nat->af)(d:Option Nat)(v:af):Nat->af:=match d with|some d=>fX tm d v|none=>tm
def sy:TypeDesc->Bool
 | .struct _=>true
 | .array _ _=>true
 |_=>false
def Vm(P:Program)(t:TypeId):Option (Bool×Nat):=
 match P.underlying t,P.info? t with
 |some d,some i=>some (sy d,i.size)
 |_,_=>none
def Vn(P:Program)(s f:Nat):Option Nat:=
 match P.underlying s with
 |some (.struct fs)=>match fs[f]? with
  |some fd=>match P.info? fd.type with
   |some i=>if i.size=0 then none else some fd.offset
   |none=>none
  |none=>none
 |_=>none
def XF(P:Program)(s f:Nat):Option (Nat×TypeId):=
 match P.underlying s with
 |some (.struct fs)=>(fs[f]?).map fun fd=>(fd.offset,fd.type)
 |_=>none
def my(P:Program)(t:TypeId):Option (TypeId×Nat):=
 match P.underlying t with
 |some (.slice e)=>match P.info? e with
  |some i=>if i.bytes<=4096/\i.size<=4096/\i.zero.map (fun z=>z.cells.size)=some i.size then some (e,i.size)else none
  |none=>none
 |_=>none
def Nc(P:Program)(t:TypeId):Option (Nat×TypeId×Nat):=
 match P.underlying t with
 |some (.array n e)=>match P.info? e with
  |some i=>some (n,e,i.size)
  |none=>none
 |_=>none
def SA:Value->Option af
 | .int k n=>some (.int k n)
 | .bool b=>some (.bool b)
 | .string s=>some (.str s)
 | .pointer none=>some .sx
 | .slice none 0 0=>some .nil
 | .map none=>some .qY
 | .nilFunc=>some .zB
 | .nilIface=>some .qZ
 |_=>none
def di{α β:Type}(f:α->Option β):List α->Option (List β)
 | []=>some []
 |x::xs=>match f x,di f xs with
  |some y,some ys=>some (y::ys)
  |_,_=>none
def ZB:Value->Option af
 | .agg cs=>(di SA cs.toList).map .agg
 |v=>SA v
def kK(P:Program)(t:TypeId):Option af:=((P.info? t).bind (·.zero)).bind ZB
def ev(G:Nat->Option af)(tm:Nat->af):Operand->Option af
 | .tmp t=>some (tm t)
 | .const v=>ZB v
 | .global g=>(G g).map fun v=>.fQ [v] 0 0
 | .func f=>some (.func (.func f) [] [])
def cI(h:aG):Nat->af->Option af
 |0,_=>none
 |n+1,v=>match v with
  | .nil=>some (.sl [])
  | .own id st len=>match h[id]? with
   |some (.arr _ es)=>if st+len<=es.length then(di (cI h n) ((es.drop st).take len)).map .sl else none
   |_=>none
  | .ptr id i off=>match h[id]? with
   |some (.box x)=>if i=0 then(cI h n x).map fun x=>.fQ [x] i off else none
   |some (.arr _ es)=>(di (cI h n) es).map fun xs=>.fQ xs i off
   |_=>none
  | .map id=>match h[id]? with
   |some (.qv ks vs)=>match di (cI h n) ks,di (cI h n) vs with
    |some ks,some vs=>some (.oo ks vs)
    |_,_=>none
   |_=>none
  | .it _=>none
  | .agg cs=>(di (cI h n) cs).map .agg
  | .eT vs=>(di (cI h n) vs).map .eT
  | .func fn a b=>match di (cI h n) a,di (cI h n) b with
   |some a,some b=>some (.func fn a b)
   |_,_=>none
  | .iface t v=>(cI h n v).map (.iface t)
  |v=>some v
def snap(h:aG)(v:af):Option af:=cI h 4194304 v
def dc(h:aG)(vs:List af):Option (List af):=di (snap h) vs
def XG(t:Bool)(x y:af):af:=match t with
 |true=>x
 |false=>y
def fZ(P:Program)(t:TypeId)(x:af)(off:Nat):Option af:=
 match Vm P t with
 |some (true,s)=>if off+s<=x.cells.length then some (.agg ((x.cells.drop off).take s))else none
 |some (false,_)=>x.cells[off]?
 |none=>none
def ku(P:Program)(t:TypeId)(a:af)(h:aG):Option af:=
 match a with
 | .ptr id i off=>match h[id]? with
  |some (.box x)=>if i=0 then fZ P t x off else none
  |some (.arr _ es)=>match es[i]? with
   |some x=>fZ P t x off
   |none=>none
  |_=>none
 | .fQ xs i off=>match xs[i]? with
  |some x=>fZ P t x off
  |none=>none
 |_=>none
def Ac(x:af)(off:Nat)(vs:List af):Option af:=
 match x with
 | .agg cs=>if off+vs.length<=cs.length then some (.agg (cs.take off++(vs++cs.drop (off+vs.length))))else none
 |_=>match off,vs with
  |0,[u]=>some u
  |_,_=>none
def sA(P:Program)(t:TypeId)(a v:af)(h:aG):Option aG:=
 match a,Vm P t with
 | .ptr id i off,some (_,s)=>
  if v.cells.length=s/\v.cells.all af.bQ=true then match h[id]? with
   |some (.box x)=>if i=0 then(Ac x off v.cells).map fun x'=>h.set id (.box x')else none
   |some (.arr sz es)=>match es[i]? with
    |some x=>(Ac x off v.cells).map fun x'=>h.set id (.arr sz (es.set i x'))
    |none=>none
   |_=>none
  else none
 |_,_=>none
def pL(h:aG)(sz:Nat)(es:List af):af×aG:=(.own h.length 0 es.length,h++[.arr sz es])
def mW(h:aG)(sz n:Nat)(es:List af):af×aG:=match n with
 |0=>(.nil,h)
 |_+1=>pL h sz es
def Gk(h:aG)(v:af):af×aG:=(.ptr h.length 0 0,h++[.box v])
def bB:Nat:=4294967296
def lN(h:aG):af->Option (List af)
 | .nil=>some []
 | .sl xs=>some xs
 | .own id st len=>match h[id]? with
  |some (.arr _ es)=>if st+len<=es.length then some ((es.drop st).take len)else none
  |_=>none
 | .str s=>some (s.data.toList.map fun b=>.int .u8 b.toNat)
 |_=>none
def jh(sz:Nat)(y:af):Bool:=y.cells.length==sz&&y.cells.all af.bQ
def ji(P:Program)(t:TypeId)(s x:af)(h:aG):Option (af×aG):=
 match my P t,lN h x with
 |some (_,sz),some ys=>
  if ys.all (jh sz)then
   match s with
   | .nil=>if ys=[]then some (.nil,h)else if ys.length<=bB then some (pL h sz ys)else none
   | .own id st len=>match h[id]? with
    |some (.arr jz es)=>
     if st=0/\jz=sz/\len<=es.length then
      if ys=[]then some (.own id 0 len,h.set id (.arr jz (es.take len)))
      else if len+ys.length<=bB then some (pL (h.set id .dead) sz (es.take len++ys))else none
     else none
    |_=>none
   |_=>none
  else none
 |_,_=>none
def vG(h:aG):af->Option Int
 | .nil=>some 0
 | .sl xs=>some xs.length
 | .own _ _ len=>some len
 | .str s=>some s.size
 | .qY=>some 0
 | .map id=>match h[id]? with
  |some (.qv ks _)=>some ks.length
  |_=>none
 | .oo ks _=>some ks.length
 |_=>none
def Pq(op:BinOp)(k:IntKind)(a b:Int):Option af:=
 match op with
 | .add=>some (.int k (k.wrap (a+b)))
 | .sub=>some (.int k (k.wrap (a-b)))
 | .mul=>some (.int k (k.wrap (a*b)))
 | .quo=>if b=0 then none else some (.int k (k.wrap (a.tdiv b)))
 | .rem=>if b=0 then none else some (.int k (a.tmod b))
 | .and=>some (.int k (k.wrap (BitVec.ofInt k.bits a &&& BitVec.ofInt k.bits b).toNat))
 | .or=>some (.int k (k.wrap (BitVec.ofInt k.bits a ||| BitVec.ofInt k.bits b).toNat))
 | .xor=>some (.int k (k.wrap (BitVec.ofInt k.bits a ^^^ BitVec.ofInt k.bits b).toNat))
 | .eql=>some (.bool (a==b))
 | .neq=>some (.bool (a != b))
 | .lss=>some (.bool (decide (a<b)))
 | .leq=>some (.bool (decide (a<=b)))
 | .gtr=>some (.bool (decide (a>b)))
 | .geq=>some (.bool (decide (a>=b)))
 | .shr=>if b<0 then none else some (.int k (a.fdiv (2^min b.toNat k.bits)))
 |_=>none
def SB(op:BinOp)(a b:ByteArray):Option af:=
 match op with
 | .add=>if a.size+b.size<=bB then some (.str (a++b))else none
 | .eql=>some (.bool (a.toList==b.toList))
 | .neq=>some (.bool (!(a.toList==b.toList)))
 | .lss=>some (.bool (Op.bytesLess a.toList b.toList))
 |_=>none
inductive FK where
 |i|b|s
def fC:List FK->List af->List af->Option Bool
 | [],[],[]=>some true
 | .i::ks,.int k a::xs,.int k' b::ys=>if k=k' then(fC ks xs ys).map (fun r=>a==b&&r)else none
 | .b::ks,.bool a::xs,.bool b::ys=>(fC ks xs ys).map (fun r=>a==b&&r)
 | .s::ks,.str a::xs,.str b::ys=>(fC ks xs ys).map (fun r=>a==b&&r)
 |_,_,_=>none
def Ad(K:TypeId->Option (List FK))(P:Program):List Field->Nat->Option (List FK)
 | [],_=>some []
 |f::fs,off=>match K f.type,P.info? f.type with
  |some l,some i=>if f.name≠ "_" /\f.offset=off/\i.size=l.length then(Ad K P fs (off+l.length)).map (l++ ·)else none
  |_,_=>none
def uw(P:Program):Nat->TypeId->Option (List FK)
 |0,_=>none
 |d+1,t=>match P.underlying t with
  |some (.int _)=>some [.i]
  |some .bool=>some [.b]
  |some .string=>some [.s]
  |some (.struct fs)=>if P.stoodInHeld t then none else Ad (uw P d) P fs.toList 0
  |_=>none
def Vo(P:Program)(t:TypeId):Option (List FK):=if P.eqGuardType P.depth t then none else uw P 6 t
def Us(P:Program)(t:TypeId)(x y:af):Option Bool:=
 match x,y with
 | .bool a,.bool b=>match P.underlying t with|some .bool=>some (a==b)|_=>none
 | .iface _ _,.qZ=>match P.underlying t with|some (.interface _)=>some false|_=>none
 | .ptr _ _ _,.sx=>match P.underlying t with|some (.pointer _)=>some false|_=>none
 | .fQ _ _ _,.sx=>match P.underlying t with|some (.pointer _)=>some false|_=>none
 | .sx,.sx=>match P.underlying t with|some (.pointer _)=>some true|_=>none
 | .agg xs,.agg ys=>match P.underlying t,Vo P t with
  |some (.struct _),some ks=>fC ks xs ys
  |_,_=>none
 |_,_=>none
def Ae:Operand->Bool
 | .const _=>true
 |_=>false
def Eg:Operand->Bool
 | .const (.slice none 0 0)=>true
 |_=>false
def xu(P:Program)(t:TypeId)(x y:Operand)(a b:af):Option Bool:=
 match a,b with
 | .qZ,.qZ=>match P.underlying t with
  |some (.interface _)=>if Ae x||Ae y then some true else none
  |_=>none
 | .sl (_::_),_=>match P.underlying t with
  |some (.slice _)=>if Eg y then some false else none
  |_=>none
 |_,_=>none
def Af(P:Program)(op:BinOp)(t:TypeId)(xo yo:Operand)(x y:af):Option af:=
 match x,y with
 | .int k a,.int k' b=>if k=k' then Pq op k a b else none
 | .str a,.str b=>SB op a b
 |x,y=>match op with
  | .eql=>match xu P t xo yo x y with
   |some b=>some (.bool b)
   |none=>(Us P t x y).map .bool
  | .neq=>match xu P t xo yo x y with
   |some b=>some (.bool (!b))
   |none=>(Us P t x y).map fun b=>.bool (!b)
  |_=>none
def Z9(op:UnOp)(x:af):Option af:=
 match op,x with
 | .neg,.int k n=>some (.int k (k.wrap (0-n)))
 | .not,.bool b=>some (.bool (!b))
 |_,_=>none
def bytesOf:List af->Option (List UInt8)
 | []=>some []
 | .int .u8 n::r=>(bytesOf r).map (UInt8.ofNat n.toNat:: ·)
 |_=>none
def Gl(x:af)(h:aG):Option af:=
 match x with
 | .str _=>none
 |x=>(lN h x).bind fun xs=>(bytesOf xs).map fun l=>.str ⟨l.toArray⟩
def Pr(P:Program)(src dst:TypeId)(x:af)(h:aG):Option af:=
 match P.underlying src,P.underlying dst with
 |some (.int _),some (.int k)=>match x with
  | .int _ n=>some (.int k (k.wrap n))
  |_=>none
 |some .string,some .string=>match x with
  | .str s=>some (.str s)
  |_=>none
 |some (.slice e),some .string=>match P.underlying e with
  |some (.int .u8)=>Gl x h
  |_=>none
 |_,_=>none
def Ps:af->Option Int
 | .int _ n=>some n
 |_=>none
def nA(P:Program)(t:TypeId)(x:af)(lo hi mx:Option Int)(h:aG):Option af:=
 match x,mx with
 | .str s,none=>
  match P.underlying t with
  |some .string=>
   let l:=lo.getD 0
   let u:=hi.getD s.size
   if 0<=l/\l<=u/\u<=s.size then some (.str (s.extract l.toNat u.toNat))else none
  |_=>none
 | .sl xs,none=>
  match my P t with
  |some (_,sz)=>
   let l:=lo.getD 0
   let u:=hi.getD xs.length
   if 0<=l/\l<=u/\u<=xs.length/\xs.all (fun y=>y.cells.length==sz)then some (.sl ((xs.drop l.toNat).take (u.toNat-l.toNat)))else none
  |_=>none
 | .own id st len,none=>
  match my P t,h[id]? with
  |some (_,sz),some (.arr jz es)=>
   let l:=lo.getD 0
   let u:=hi.getD len
   if 0<=l/\l<=u/\u<=len/\jz=sz then some (.own id (st+l.toNat) (u.toNat-l.toNat))else none
  |_,_=>none
 | .nil,none=>
  match my P t with
  |some _=>if lo.getD 0=0/\hi.getD 0=0 then some .nil else none
  |_=>none
 |_,_=>none
def vH(P:Program)(t:TypeId)(x:af)(i:Int)(h:aG):Option af:=
 match x with
 | .own id st len=>match my P t,h[id]? with
  |some (_,sz),some (.arr jz _)=>if 0<=i/\i<len/\jz=sz then some (.ptr id (st+i.toNat) 0)else none
  |_,_=>none
 | .sl xs=>match my P t,xs[i.toNat]? with
  |some (_,sz),some x=>if 0<=i/\x.cells.length=sz then some (.fQ [x] 0 0)else none
  |_,_=>none
 | .ptr id j off=>match Nc P t with
  |some (n,_,sz)=>if 0<=i/\i<n then some (.ptr id j (off+i.toNat*sz))else none
  |_=>none
 | .fQ xs j off=>match Nc P t with
  |some (n,_,sz)=>if 0<=i/\i<n then some (.fQ xs j (off+i.toNat*sz))else none
  |_=>none
 |_=>none
def Ag(P:Program)(t:TypeId)(x:af)(i:Int):Option af:=
 match x with
 | .str s=>match P.underlying t with
  |some .string=>if 0<=i then match s[i.toNat]? with
   |some b=>some (.int .u8 b.toNat)
   |none=>none
    else none
  |_=>none
 | .agg cs=>match Nc P t with
  |some (n,e,sz)=>if 0<=i/\i<n then fZ P e (.agg cs) (i.toNat*sz)else none
  |_=>none
 |_=>none
def JE(P:Program)(t:TypeId)(x:af)(f:Nat):Option af:=
 match x,XF P t f with
 | .agg cs,some (off,ft)=>fZ P ft (.agg cs) off
 |_,_=>none
def kL(es:List af)(sz:Nat):List (Nat×af)->Option (List af)
 | []=>some es
 |(i,v)::r=>if i<es.length/\v.cells.length=sz then kL (es.set i v) sz r else none
def lr(pl:Nat->Option (Nat×Nat))(cs:List af):List (Nat×af)->Option (List af)
 | []=>some cs
 |(i,v)::r=>match pl i with
  |some (off,sz)=>if v.cells.length=sz/\off+sz<=cs.length then lr pl (cs.take off++(v.cells++cs.drop (off+sz))) r else none
  |none=>none
def Ah(P:Program)(t:TypeId)(i:Nat):Option (Nat×Nat):=
 match P.underlying t with
 |some (.struct fs)=>match fs[i]? with
  |some fd=>(P.info? fd.type).map fun j=>(fd.offset,j.size)
  |none=>none
 |some (.array _ e)=>(P.info? e).map fun j=>(i*j.size,j.size)
 |_=>none
def zM(P:Program)(t:TypeId):Bool:=
 match P.underlying t with
 |some (.struct fs)=>fs.toList.all fun f=>(P.info? f.type).isSome
 |some (.array _ e)=>(P.info? e).isSome
 |_=>false
def Gm(P:Program)(kt:TypeId)(a b:af):Option Bool:=
 match P.underlying kt,a,b with
 |some (.int _),.int k x,.int k' y=>if k=k' then some (x==y)else none
 |some .string,.str x,.str y=>some (x==y)
 |_,_,_=>none
def pU(P:Program)(kt:TypeId)(k:af):List af->Nat->Option (Option Nat)
 | [],_=>some none
 |x::xs,i=>match Gm P kt k x with
  |some true=>some (some i)
  |some false=>pU P kt k xs (i+1)
  |none=>none
def Pt(P:Program)(t:TypeId):Option (TypeId×TypeId):=
 match P.underlying t with
 |some (.map k e)=>some (k,e)
 |_=>none
def isKey(P:Program)(kt:TypeId)(k:af):Bool:=
 match P.underlying kt,k with
 |some (.int k),.int k' _=>decide (k'=k)
 |some .string,.str _=>true
 |_,_=>false
def yB(P:Program)(t:TypeId)(m k:af)(ok:Bool)(h:aG):Option af:=
 match Pt P t with
 |some (kt,et)=>
  if isKey P kt k then
   match(match m with
    | .qY=>some ([],[])
    | .oo ks vs=>some (ks,vs)
    | .map id=>match h[id]? with
     |some (.qv ks vs)=>some (ks,vs)
     |_=>none
    |_=>none)with
   |some (ks,vs)=>match pU P kt k ks 0 with
    |some (some i)=>match vs[i]? with
     |some v=>some (if ok then .eT [v,.bool true]else v)
     |none=>none
    |some none=>match kK P et with
     |some z=>some (if ok then .eT [z,.bool false]else z)
     |none=>none
    |none=>none
   |none=>none
  else none
 |none=>none
def Eh(P:Program)(t:TypeId)(m k v:af)(h:aG):Option aG:=
 match Pt P t,m with
 |some (kt,_),.map id=>match h[id]? with
  |some (.qv ks vs)=>
   if isKey P kt k then
    match pU P kt k ks 0 with
    |some (some i)=>some (h.set id (.qv ks (vs.set i v)))
    |some none=>some (h.set id (.qv (ks++[k]) (vs++[v])))
    |none=>none
   else none
  |_=>none
 |_,_=>none
def Ai(v:af)(i:Nat):Option af:=
 match v with
 | .eT vs=>vs[i]?
 |_=>none
def Ut:af->Bool
 | .ptr _ _ _=>true
 | .fQ _ _ _=>true
 | .iface _ _=>true
 | .func (.func _) _ _=>true
 |_=>false
def Gn(P:Program)(t:TypeId)(l c:af)(h:aG):Option (af×aG):=
 match my P t,l,c with
 |some (e,sz),.int _ l,.int _ c=>
  if 0<=l/\l<=c/\c<=(bB:Int)then
   match kK P e with
   |some z=>if z.cells.length=sz then some (.own h.length 0 l.toNat,h++[.arr sz (List.replicate c.toNat z)])else none
   |none=>none
  else none
 |_,_,_=>none
def Pu(P:Program)(t:TypeId)(name:String):Option FuncId:=
 match P.info? t with
 |some i=>match i.methods.find? (·.name==name)with
  |some m=>if m.path= #[]then match m.func with
   |some (f,SC)=>match P.underlying t,SC with
    |some (.pointer _),true=>some f
    |some (.pointer _),false=>none
    |some _,false=>some f
    |_,_=>none
   |none=>none
    else none
  |none=>none
 |none=>none
def ia(P:Program)(f:FuncId):Bool:=
 match P.funcs[f]? with
 |some fn=>fn.body.isSome&& !(fn.name== "runtime.NumGoroutine")
 |none=>false
def sB:Mode->Bool
 | .P=>true
 |_=>false
def LV:Mode->Bool
 | .P=>true
 | .N=>true
 |_=>false
def zC:Op->Bool
 | .call {callee:=.value (.func _),..}=>false
 | .call {callee:=.builtin _,..}=>false
 | .call _=>true
 |_=>false
def dG(cf:eP)(tm:Nat->af)(h:aG)(c:Call):Option JD:=
 match di (ev cf.G tm) c.args.toList with
 |none=>none
 |some args=>match c.callee with
  | .value fo=>match ev cf.G tm fo with
   |some (.func (.func f) first cap)=>if ia cf.P f then some (.call f (first++args++cap))else none
   |_=>none
  | .invoke ro name=>match ev cf.G tm ro with
   |some (.iface t v)=>match Pu cf.P t name with
    |some f=>if ia cf.P f then some (.call f (v::args))else none
    |none=>none
   |_=>none
  | .builtin b=>match b,args with
   | .len,[x]=>match(c.argTypes[0]?).bind cf.P.underlying,vG h x with
    |some (.slice _),some n=>(match x with| .str _=>none| .map _=>none| .qY=>none| .oo _ _=>none|_=>some (.val (.int .i64 n) h))
    |some .string,some n=>(match x with| .str _=>some (.val (.int .i64 n) h)|_=>none)
    |some (.map _ _),some n=>(match x with| .map _=>some (.val (.int .i64 n) h)| .qY=>some (.val (.int .i64 n) h)| .oo _ _=>some (.val (.int .i64 n) h)|_=>none)
    |_,_=>none
   | .append,[s,x]=>match c.argTypes[0]?,(c.argTypes[1]?).bind cf.P.underlying with
    |some t,some d=>(match d with
     | .slice _=>(ji cf.P t s x h).map fun r=>.val r.1 r.2
     | .string=>(ji cf.P t s x h).map fun r=>.val r.1 r.2
     |_=>none)
    |_,_=>none
   | .min,[.int k x,.int _ y]=>some (.val (.int k (if y<x then y else x)) h)
   | .max,[.int k x,.int _ y]=>some (.val (.int k (if y>x then y else x)) h)
   |_,_=>none
def vI(G:Nat->Option af)(tm:Nat->af):Option Operand->Option (Option Int)
 |none=>some none
 |some o=>((ev G tm o).bind Ps).map some
def aV(cf:eP)(tm:Nat->af)(h:aG)(o:Op):Option JD:=
 let e:=ev cf.G tm
 match o with
 | .move x=>(e x).map (.val · h)
 | .assign x=>(e x).map (.val · h)
 | .pick c a b=>match e c,e a,e b with
  |some (.bool t),some x,some y=>some (.val (XG t x y) h)
  |_,_,_=>none
 | .alloc t=>(kK cf.P t).map fun z=>.val (Gk h z).1 (Gk h z).2
 | .box _ x=>(e x).map fun z=>.val (Gk h z).1 (Gk h z).2
 | .build t ps=>match kK cf.P t,di (fun p=>(e p.2).map fun v=>(p.1,v)) ps.toList with
  |some z,some vs=>if zM cf.P t then match lr (Ah cf.P t) z.cells vs with
   |some cs=>some (.val (.agg cs) h)
   |none=>none
    else none
  |_,_=>none
 | .buildSlice t n ps=>match my cf.P t,di (fun p=>(e p.2).map fun v=>(p.1,v)) ps.toList with
  |some (et,sz),some vs=>
   if n<=4096/\sz<=4096 then match kK cf.P et with
    |some z=>if z.cells.length=sz then match kL (List.replicate n z) sz vs with
     |some es=>some (.val (mW h sz n es).1 (mW h sz n es).2)
     |none=>none
      else none
    |none=>none
   else none
  |_,_=>none
 | .load t a=>match e a with
  |some a=>(ku cf.P t a h).map (.val · h)
  |none=>none
 | .store t a x=>match e a,e x with
  |some a,some v=>(sA cf.P t a v h).map (.val (.eT []) ·)
  |_,_=>none
 | .nilCheck x=>match e x with
  |some v=>if Ut v then some (.val v h)else none
  |none=>none
 | .binOp op t x y _=>match e x,e y with
  |some a,some b=>(Af cf.P op t x y a b).map (.val · h)
  |_,_=>none
 | .unOp op _ x=>match e x with
  |some a=>(Z9 op a).map (.val · h)
  |none=>none
 | .convert s d x=>match e x with
  |some a=>(Pr cf.P s d a h).map (.val · h)
  |none=>none
 | .makeInterface t x=>match e x,cf.P.underlying t with
  |some a,some d=>(match d with
   | .interface _=>none
   |_=>some (.val (.iface t a) h))
  |_,_=>none
 | .makeFunc fn a b=>match di e a.toList,di e b.toList with
  |some a,some b=>some (.val (.func fn a b) h)
  |_,_=>none
 | .makeMap _ none=>some (.val (.map h.length) (h++[.qv [] []]))
 | .makeSlice t l c=>match e l,e c with
  |some l,some c=>(Gn cf.P t l c h).map fun r=>.val r.1 r.2
  |_,_=>none
 | .slice t x lo hi mx=>match e x,vI cf.G tm lo,vI cf.G tm hi,mx with
  |some x,some lo,some hi,none=>(nA cf.P t x lo hi none h).map (.val · h)
  |_,_,_,_=>none
 | .fieldAddr s x f=>match e x,Vn cf.P s f with
  |some (.ptr id i off),some k=>some (.val (.ptr id i (off+k)) h)
  |some (.fQ xs i off),some k=>some (.val (.fQ xs i (off+k)) h)
  |_,_=>none
 | .field t x f=>match e x with
  |some x=>(JE cf.P t x f).map (.val · h)
  |none=>none
 | .indexAddr t x i=>match e x,e i with
  |some x,some (.int _ i)=>(vH cf.P t x i h).map (.val · h)
  |_,_=>none
 | .index t x i=>match e x,e i with
  |some x,some (.int _ i)=>(Ag cf.P t x i).map (.val · h)
  |_,_=>none
 | .lookup t m k ok=>match e m,e k with
  |some m,some k=>(yB cf.P t m k ok h).map (.val · h)
  |_,_=>none
 | .mapUpdate t m k x=>match e m,e k,e x with
  |some m,some k,some v=>(Eh cf.P t m k v h).map (.val (.eT []) ·)
  |_,_,_=>none
 | .insert t m k x=>match e m,e k,e x with
  |some m,some k,some v=>(Eh cf.P t m k v h).map (.val (.eT []) ·)
  |_,_,_=>none
 | .extract t i=>match e t with
  |some v=>(Ai v i).map (.val · h)
  |none=>none
 | .call c=>dG cf tm h c
 | .panic x=>match e x with
  |some (.iface t v)=>some (.jI (.iface t v))
  |_=>none
 |_=>none
def LW{α:Type}(t:Bool)(x y:α):α:=match t with
 |true=>x
 |false=>y
def Gp{α:Type}(t:Bool)(x y:α):α:=match t with
 |true=>x
 |false=>y
def kW:Op->Bool
 | .move _=>true
 | .assign _=>true
 | .pick _ _ _=>true
 | .load _ _=>true
 | .binOp _ _ _ _ _=>true
 | .unOp _ _ _=>true
 | .fieldAddr _ _ _=>true
 | .field _ _ _=>true
 | .indexAddr _ _ _=>true
 | .index _ _ _=>true
 | .extract _ _=>true
 | .lookup _ _ _ _=>true
 | .convert _ _ _=>true
 | .call {callee:=.builtin .len,..}=>true
 |_=>false
def gh(p:Nat->Bool):Nat->aG->aG
 |_,[]=>[]
 |i,o::t=>(bif p i then .dead else o)::gh p (i+1) t
theorem il(p:Nat->Bool): ∀(h:aG)(k:Nat),(gh p k h).length=h.length
 | [],_=>rfl
 |_::t,k=>congrArg (· +1) (il p t (k+1))
theorem tK(p:Nat->Bool): ∀(h:aG)(k i:Nat),(gh p k h)[i]?=(h[i]?).map fun o=>bif p (k+i)then .dead else o
 | [],_,_=>rfl
 |o::t,k,0=>rfl
 |o::t,k,i+1=>by
  have:=tK p t (k+1) i;rw[show k+1+i=k+(i+1) by omega]at this;simpa[gh]using this
def af.iq:af->Bool
 | .own _ _ _=>true
 | .nil=>true
 | .sl []=>true
 |v=>v.isScalar
def af.clean:af->Bool
 | .agg cs=>cs.all af.iq
 | .eT cs=>cs.all fun c=>match c with
  | .agg ds=>ds.all af.iq
  |c=>c.iq
 |v=>v.iq
def nB(n:Nat):af->af
 | .own id st len=>.own (id+n) st len
 |v=>v
def jj(n:Nat):af->af
 | .agg cs=>.agg (cs.map (nB n))
 |v=>nB n v
def q8(n:Nat):af->af
 | .eT cs=>.eT (cs.map (jj n))
 |v=>jj n v
def dH.keeps:dH->Bool
 | .arr _ es=>es.all fun c=>match c with
  | .agg ds=>ds.all af.iq
  |c=>c.iq
 |_=>false
def dH.keep(n:Nat)(o:dH):dH:=match o.keeps,o with
 |true,.arr sz es=>.arr sz (es.map (jj n))
 |_,_=>.dead
def af.Pv:af->Bool
 | .own _ _ _=>false
 | .ptr _ _ _=>false
 | .map _=>false
 | .it _=>false
 | .func _ _ _=>false
 | .iface _ _=>false
 | .agg _=>false
 | .eT _=>false
 |_=>true
def af.Pw:af->Bool
 | .agg cs=>cs.all af.Pv
 |v=>v.Pv
def af.LX(h:aG):af->Bool
 | .own id _ _=>match h[id]? with
  |some (.arr _ _)=>true
  |some .dead=>true
  |_=>false
 |v=>v.Pv
def af.Vp(h:aG):af->Bool
 | .agg cs=>cs.all (af.LX h)
 |v=>v.LX h
def dH.re:dH->Bool
 | .arr _ es=>es.all af.Pw
 |_=>true
def dH.freeze:dH->dH
 | .arr _ _=>.dead
 |o=>o
def kA(h:aG):Nat->af->List Nat
 |0,_=>[]
 |n+1,.own id _ _=>match h[id]? with
  |some (.arr _ es)=>id::es.flatMap (kA h n)
  |_=>[]
 |n+1,.agg cs=>cs.flatMap (kA h n)
 |n+1,.eT cs=>cs.flatMap (kA h n)
 |_+1,_=>[]
def fR(h:aG)(args:List af)(i:Nat):Bool:=(args.flatMap (kA h 4194304)).contains i
def LY(h1:aG)(p:Nat->Bool):af->af
 | .own id st n=>match p id with
  |true=>(match snap h1 (.own id st n)with
   |some x=>x
   |none=>.own id st n)
  |false=>.own id st n
 |c=>c
def yC(h1:aG)(p:Nat->Bool):dH->dH
 | .box (.agg cs)=>.box (.agg (cs.map (LY h1 p)))
 |o=>o
def LZ(j:Bool)(h1:aG)(p:Nat->Bool)(h:aG):aG:=match j with
 |true=>h.map (yC h1 p)
 |false=>h
def qw(j:Bool)(C:q0)(f:FuncId)(args:List af)(h:aG):Option ef:=
 match dc (gh (fun i=>!fR h args i) 0 h) args with
 |some as=>match C f as []with
  |some (.ret v h1)=>(snap h1 v).map (.ret · (LZ j (gh (fun i=>!fR h args i) 0 h) (fR h args) (gh (fR h args) 0 h)))
  |_=>none
 |none=>none
def cj(cf:eP)(C:q0)(f:FuncId)(args:List af)(h:aG):Option ef:=
 match cf.M f with
 | .F=>C f args h
 | .P=>match dc [] args with
  |some as=>match C f as []with
   |some (.ret v h1)=>(snap h1 v).map (.ret · h)
   |some (.jI v h1)=>(snap h1 v).map (.jI · h)
   |none=>none
  |none=>match dc h args with
   |some as=>match C f as []with
    |some (.ret v _)=>if v.Sz then some (.ret v h)else none
    |_=>none
   |none=>none
 | .N=>match dc h args with
  |some as=>match C f as []with
   |some (.ret v h1)=>if v.clean then some (.ret (q8 h.length v) (h++h1.map (dH.keep h.length)))else none
   |_=>none
  |none=>none
 | .K=>match dc [] args with
  |some as=>match C f as []with
   |some (.ret v h1)=>(snap h1 v).map (.ret · h)
   |_=>none
  |none=>match args.all (af.Vp h)&&h.all dH.re with
   |true=>match dc h args with
    |some as=>match C f as []with
     |some (.ret v h1)=>(snap h1 v).map (.ret · (h.map dH.freeze))
     |_=>none
    |none=>none
   |false=>none
 | .R=>match C f args h with
  |some (.ret v h1)=>match Nat.ble h.length h1.length with
   |true=>(snap (gh (fun i=>Nat.blt i h.length) 0 h1) v).map (.ret · (gh (Nat.ble h.length) 0 h1))
   |false=>none
  |_=>none
 | .V=>match dc [] args with
  |some as=>match C f as []with
   |some (.ret v h1)=>(snap h1 v).map (.ret · h)
   |_=>none
  |none=>qw false C f args h
 | .X=>match dc [] args with
  |some as=>match C f as []with
   |some (.ret v h1)=>(snap h1 v).map (.ret · h)
   |_=>none
  |none=>qw true C f args h
def eL(ops:Array Oper)(o:Oper)(tm:Nat->af):Option Bool:=
 match o.guard with
 |none=>none
 |some (j,zD)=>match(ops[j]?).bind (·.dst)with
  |some d=>(match tm d with
   | .bool b=>some (b==zD)
   |_=>some false)
  |none=>some false
def fM(cf:eP)(C:q0)(d:Bool)(o:Oper)(st:St)(K:St->Option Out):Option Out:=
 match aV cf st.tm st.hp o.op with
 |some (.val v h)=>K ⟨jL st.tm o.dst v,h⟩
 |some (.call f args)=>match d&&(zC o.op&& !sB (cf.M f))with
  |true=>none
  |false=>match cj cf C f args st.hp with
   |some (.ret v h)=>K ⟨jL st.tm o.dst v,h⟩
   |some (.jI v h)=>some (.jI v h)
   |none=>none
 |some (.jI v)=>some (.jI v st.hp)
 |none=>none
def xw(M:FuncId->Mode):Op->Bool
 | .store _ _ _=>true
 | .mapUpdate _ _ _ _=>true
 | .insert _ _ _ _=>true
 | .call {callee:=.builtin .append,..}=>true
 | .call {callee:=.value (.func f),..}=>match M f with
  | .P=>false
  | .N=>false
  |_=>true
 |_=>false
def gB(x:Oper):Bool:=match x.op,x.guard with
 | .load _ _,none=>true
 | .slice _ _ _ _ none,none=>true
 | .indexAddr _ _ _,none=>true
 |_,_=>false
def mB(x:Oper):Bool:=match x.op,x.guard with
 | .alloc _,none=>true
 | .box _ _,none=>true
 | .buildSlice _ (_+1) _,none=>true
 |_,_=>false
def j8(x:Oper):Bool:=gB x||mB x
def Ei(acc:List Nat):List Edge->Nat->Nat
 | [],m=>m
 |e::es,m=>Ei acc es (if Region.binds .any e then(m ||| 2^e.on) |||(acc[e.on]?).getD 0 else m)
def m6:List Oper->List Nat->List Nat
 | [],acc=>acc
 |o::r,acc=>m6 r (acc++[Ei acc o.after.toList 0])
def Px(cf:eP)(x:Oper)(st:St)(d:Nat):Prop:=match aV cf st.tm [] x.op with
 |some (.val (.ptr _ _ _) [ob])=>∃k,st.tm d= .ptr k 0 0/\st.hp[k]?=some ob
 |some (.val (.own _ _ n) [ob])=>∃k,st.tm d= .own k 0 n/\st.hp[k]?=some ob
 |_=>False
def Ej(cf:eP)(x:Oper)(st:St):Prop:=match x.dst with
 |some d=>match mB x with
  |true=>Px cf x st d
  |false=>aV cf st.tm st.hp x.op=some (.val (st.tm d) st.hp)
 |none=>True
def nH(cf:eP)(st:St)(m:Nat):List Oper->Nat->Prop
 | [],_=>True
 |x::xs,i=>match j8 x&& !m.testBit i with
  |false=>nH cf st m xs (i+1)
  |true=>Ej cf x st/\nH cf st m xs (i+1)
noncomputable def CX(p:Prop)(r:Option Out):Option Out:=@ite _ p (Classical.propDecidable p) r none
def nC(m:Nat):List Oper->Nat->Bool
 | [],_=>false
 |x::xs,i=>match j8 x&& !m.testBit i with
  |true=>true
  |false=>nC m xs (i+1)
theorem ux{cf:eP}{st:St}{m:Nat}: ∀(l:List Oper)(i:Nat),nC m l i=false->nH cf st m l i
 | [],_,_=>trivial
 |x::xs,i,h=>by
  unfold nC at h;unfold nH;split at h
  ·cases h
  ·rename_i hc;simp only[hc];exact ux xs (i+1) h
noncomputable def mC(cf:eP)(d:Bool)(ops:Array Oper)(o:Oper)(n:Nat)(K:St->Option Out)(st:St):Option Out:=match d&&xw cf.M o.op with
 |false=>K st
 |true=>match nC (((m6 ops.toList [])[ops.size-n-1]?).getD 0) (ops.toList.take (ops.size-n-1)) 0 with
  |false=>K st
  |true=>CX (nH cf st (((m6 ops.toList [])[ops.size-n-1]?).getD 0) (ops.toList.take (ops.size-n-1)) 0) (K st)
theorem rf{cf:eP}{d:Bool}{ops:Array Oper}{o:Oper}{n:Nat}{K K':St->Option Out}(hK: ∀st r,K st=some r->K' st=some r)(st:St)(r:Out)(h:mC cf d ops o n K st=some r):mC cf d ops o n K' st=some r:=by
 unfold mC at h⊢;split
 ·rename_i hc;simp only[hc]at h;exact hK _ _ h
 ·rename_i hc;simp only[hc]at h;split
  ·rename_i hq;simp only[hq]at h;exact hK _ _ h
  ·rename_i hq;simp only[hq]at h;unfold CX at h⊢;split at h
   ·rename_i hp;rw[if_pos hp];exact hK _ _ h
   ·cases h
theorem CY{cf:eP}{d:Bool}{ops:Array Oper}{o:Oper}{n:Nat}{K:St->Option Out}{K':Nat->St->Option Out}(hK: ∀st r,K st=some r-> ∃n,K' n st=some r)(st:St)(r:Out)(h:mC cf d ops o n K st=some r): ∃m,mC cf d ops o n (K' m) st=some r:=by
 unfold mC at h⊢;split
 ·rename_i hc;simp only[hc]at h;exact hK _ _ h
 ·rename_i hc;simp only[hc]at h;split
  ·rename_i hq;simp only[hq]at h;exact hK _ _ h
  ·rename_i hq;simp only[hq]at h;unfold CX at h⊢;split at h
   ·rename_i hp;obtain⟨m,hm⟩:=hK _ _ h;exact⟨m,by rw[if_pos hp];exact hm⟩
   ·cases h
theorem lO{cf:eP}{d:Bool}{ops:Array Oper}{o:Oper}{n:Nat}{K:St->Option Out}{st:St}{r:Out}(h:mC cf d ops o n K st=some r):
  K st=some r/\((d&&xw cf.M o.op)=true->nH cf st (((m6 ops.toList [])[ops.size-n-1]?).getD 0) (ops.toList.take (ops.size-n-1)) 0):=by
   unfold mC at h;split at h
   ·rename_i hc;exact⟨h,fun h'=>by rw[hc]at h';cases h'⟩
   ·split at h
    ·rename_i hq;exact⟨h,fun _=>ux _ _ hq⟩
    ·unfold CX at h;split at h
     ·rename_i hp;exact⟨h,fun _=>hp⟩
     ·cases h
noncomputable def kB(cf:eP)(C:q0)(d:Bool)(ops:Array Oper):List Oper->St->Option Out
 | [],st=>some (.norm st)
 |o::rest,st=>
  match eL ops o st.tm with
  |none=>fM cf C d o st (mC cf d ops o rest.length (kB cf C d ops rest))
  |some t=>
   if kW o.op then match Gp t (aV cf st.tm st.hp o.op) (some (.val (.eT []) st.hp))with
    |some (.val v h)=>kB cf C d ops rest ⟨jL st.tm o.dst v,h⟩
    |_=>none
   else LW t (fM cf C d o st (mC cf d ops o rest.length (kB cf C d ops rest))) (kB cf C d ops rest ⟨jL st.tm o.dst (.eT []),st.hp⟩)
def Gq(d:Bool)(r:Option Out):Option Out:=match d,r with
 |true,some (.norm st)=>some (.norm st)
 |true,_=>none
 |false,r=>r
theorem JF{d:Bool}{x y:Option Out}(h: ∀r,x=some r->y=some r){r:Out}(hx:Gq d x=some r):Gq d y=some r:=by
 cases d with
 |false=>exact h r hx
 |true=>
  cases x with
  |none=>cases hx
  |some q=>cases q<;>first|(rw[h _ rfl];exact hx)|cases hx
theorem rh{d:Bool}{x:Option Out}{r:Out}(hx:Gq d x=some r):x=some r/\(d=true-> ∃st,r= .norm st):=by
 cases d with
 |false=>exact⟨hx,fun h=>by cases h⟩
 |true=>
  cases x with
  |none=>cases hx
  |some q=>cases q<;>first|(cases hx;done)|(simp only[Gq]at hx;cases hx;exact⟨rfl,fun _=>⟨_,rfl⟩⟩)
noncomputable def cQ(cf:eP)(C:q0)(L:O6):Code->St->Option Out
 | .skip,st=>some (.norm st)
 | .region id ops d,st=>Gq d (kB cf C d (LU cf.pm id ops d) (LU cf.pm id ops d).toList st)
 | .seq a b,st=>match cQ cf C L a st with
  |some (.norm fb)=>cQ cf C L b fb
  |r=>r
 | .cond c a b,st=>match ev cf.G st.tm c with
  |some (.bool t)=>LW t (cQ cf C L a st) (cQ cf C L b st)
  |_=>none
 | .block id c,st=>match cQ cf C L c st with
  |some (.exit j fb)=>if j=id then some (.norm fb)else some (.exit j fb)
  |r=>r
 | .loop c,st=>L c st
 | .exit id,st=>some (.exit id st)
 | .scope c,st=>cQ cf C L c st
 | .label _,st=>some (.norm st)
 | .ret,st=>some (.ret st)
 |_,_=>none
def kM(P:Program)(st:St):ResultVar->Option af
 | .tmp t=>some (st.tm t)
 | .cell a t=>ku P t (st.tm a) st.hp
def Ek:List af->af
 | [v]=>v
 |vs=>.eT vs
def qx(P:Program)(fn:Func):Option Out->Option ef
 |some (.norm st)=>(di (kM P st) fn.results.toList).map fun vs=>.ret (Ek vs) st.hp
 |some (.ret st)=>(di (kM P st) fn.results.toList).map fun vs=>.ret (Ek vs) st.hp
 |some (.jI v h)=>some (.jI v h)
 |_=>none
def lP(args:List af):Nat->af:=fun k=>(args[k]?).getD (.eT [])
noncomputable def nJ(cf:eP)(C:q0)(L:O6)(f:FuncId)(args:List af)(h:aG):Option ef:=
 match cf.pr f with
 |some p=>p args h
 |none=>match cf.P.funcs[f]? with
  |some fn=>match fn.body with
   |some c=>qx cf.P fn (cQ cf C L c ⟨lP args,h⟩)
   |none=>none
  |none=>none
noncomputable def iN(cf:eP)(C:q0)(L:O6)(c:Code)(st:St):Option Out:=
 match cQ cf C L c st with
 |some (.norm fb)=>L c fb
 |r=>r
noncomputable def n0(cf:eP):Nat->q0×O6
 |0=>(fun _ _ _=>none,fun _ _=>none)
 |n+1=>(nJ cf (n0 cf n).1 (n0 cf n).2,iN cf (n0 cf n).1 (n0 cf n).2)
open Classical in
noncomputable def Nd{α:Type}(f:Nat->Option α):Option α:=if h: ∃a n,f n=some a then some h.choose else none
noncomputable def call(cf:eP):q0:=fun f args h=>Nd fun n=>(n0 cf n).1 f args h
noncomputable def je(cf:eP):O6:=fun c st=>Nd fun n=>(n0 cf n).2 c st
theorem gi{α:Type}{f:Nat->Option α}{a:α}(h:Nd f=some a): ∃n,f n=some a:=by
 unfold Nd at h;split at h
 ·rename_i hx;obtain⟨n,hn⟩:=hx.choose_spec;exact⟨n,by rw[hn];exact h⟩
 ·cases h
def Py{α:Type}(f:Nat->Option α):Prop:=∀n a,f n=some a->f (n+1)=some a
theorem Py.le{α:Type}{f:Nat->Option α}(hm:Py f){n m:Nat}(h:n<=m){a:α}(ha:f n=some a):f m=some a:=by
 induction h with
 |refl=>exact ha
 |step _ ih=>exact hm _ _ ih
theorem Pz{α:Type}{f:Nat->Option α}(hm:Py f){n:Nat}{a:α}(h:f n=some a):Nd f=some a:=by
 unfold Nd;have hx: ∃a n,f n=some a:=⟨a,n,h⟩;rw[dif_pos hx];obtain⟨m,hb⟩:=hx.choose_spec;have h1:=hm.le (Nat.le_max_left n m) h;have h2:=hm.le (Nat.le_max_right n m) hb;rw[h1]at h2;injection h2 with h2;rw[<-h2]
theorem L0{α:Type}{x y:Option α}(h: ∀a,x=some a↔y=some a):x=y:=by
 cases x with
 |none=>cases y with
  |none=>rfl
  |some b=>have:=(h b).2 rfl;cases this
 |some a=>exact((h a).1 rfl).symm
theorem lu{α β:Type}{f g:α->Option β}(hfg: ∀x b,f x=some b->g x=some b): ∀(l:List α)(r:List β),di f l=some r->di g l=some r:=by
 intro l
 induction l with
 |nil=>intro r h;exact h
 |cons x xs ih=>
  intro r h;simp only[di]at h⊢
  cases hx:f x with
  |none=>simp[hx]at h
  |some y=>
   cases zN:di f xs with
   |none=>simp[hx,zN]at h
   |some ys=>
    simp only[hx,zN]at h;simp only[hfg _ _ hx,ih _ zN];exact h
theorem JG(h:aG): ∀(n:Nat)(v a:af),cI h n v=some a->cI h (n+1) v=some a:=by
 intro n
 induction n with
 |zero=>intro v a hh;simp[cI]at hh
 |succ n ih=>
  intro v a hh;cases v
  case own id st len=>
   rw[cI]at hh⊢
   cases ho:h[id]? with
   |none=>simp[ho]at hh
   |some o=>
    cases o with
    |arr sz es=>
     simp only[ho]at hh⊢;split at hh
     ·rename_i hc;rw[if_pos hc];simp only[nM]at hh⊢;obtain⟨xs,zN,hx⟩:=hh;exact⟨xs,lu (fun z b=>ih z b) _ _ zN,hx⟩
     ·cases hh
    |_=>simp[ho]at hh
  case ptr id i off=>
   rw[cI]at hh⊢
   cases ho:h[id]? with
   |none=>simp[ho]at hh
   |some o=>
    cases o with
    |arr sz es=>
     simp only[ho,nM]at hh⊢;obtain⟨xs,zN,hx⟩:=hh
     exact⟨xs,lu (fun z b=>ih z b) _ _ zN,hx⟩
    |box x=>
     simp only[ho]at hh⊢;split at hh
     ·rename_i hi;rw[if_pos hi];simp only[nM]at hh⊢;obtain⟨y,hy,hx⟩:=hh;exact⟨y,ih _ _ hy,hx⟩
     ·cases hh
    |_=>simp[ho]at hh
  case map id=>
   rw[cI]at hh⊢
   cases ho:h[id]? with
   |none=>simp[ho]at hh
   |some o=>
    cases o with
    |qv ks vs=>
     simp only[ho]at hh⊢
     cases h1:di (cI h n) ks with
     |none=>simp[h1]at hh
     |some xs=>
      cases h2:di (cI h n) vs with
      |none=>simp[h1,h2]at hh
      |some ys=>
       simp only[h1,h2]at hh;simp only[lu (fun z b=>ih z b) _ _ h1,lu (fun z b=>ih z b) _ _ h2]
       exact hh
    |_=>simp[ho]at hh
  case agg cs=>
   rw[cI]at hh⊢;simp only[nM]at hh⊢;obtain⟨xs,zN,hx⟩:=hh;exact⟨xs,lu (fun z b=>ih z b) _ _ zN,hx⟩
  case eT cs=>
   rw[cI]at hh⊢;simp only[nM]at hh⊢;obtain⟨xs,zN,hx⟩:=hh;exact⟨xs,lu (fun z b=>ih z b) _ _ zN,hx⟩
  case func fn x y=>
   rw[cI]at hh⊢
   cases h1:di (cI h n) x with
   |none=>simp[h1]at hh
   |some xs=>
    cases h2:di (cI h n) y with
    |none=>simp[h1,h2]at hh
    |some ys=>
     simp only[h1,h2]at hh;simp only[lu (fun z b=>ih z b) _ _ h1,lu (fun z b=>ih z b) _ _ h2];exact hh
  case iface t w=>
   rw[cI]at hh⊢;simp only[nM]at hh⊢;obtain⟨x,hx,hxx⟩:=hh;exact⟨x,ih _ _ hx,hxx⟩
  all_goals exact hh
theorem Aj{C C':q0}{j:Bool}(hC: ∀f a h r,C f a h=some r->C' f a h=some r)(f:FuncId)(a:List af)(h:aG)(r:ef)(hh:qw j C f a h=some r):qw j C' f a h=some r:=by
 unfold qw at hh⊢;split at hh
 ·rename_i as hs
  cases hc:C f as []with
  |none=>simp[hc]at hh
  |some q=>simp only[hc]at hh;simp only[hs,hC _ _ _ _ hc];exact hh
 ·cases hh
theorem Ak{cf:eP}{C C':q0}(hC: ∀f a h r,C f a h=some r->C' f a h=some r)(f:FuncId)(a:List af)(h:aG)(r:ef)
  (hh:cj cf C f a h=some r):cj cf C' f a h=some r:=by
   unfold cj at hh⊢
   cases hm:cf.M f with
   |F=>simp only[hm]at hh⊢;exact hC _ _ _ _ hh
   |P=>
    simp only[hm]at hh⊢
    cases hs:dc [] a with
    |some as=>
     simp only[hs]at hh⊢
     cases hc:C f as []with
     |none=>simp[hc]at hh
     |some q=>simp only[hc]at hh;simp only[hC _ _ _ _ hc];exact hh
    |none=>
     simp only[hs]at hh⊢
     cases sa:dc h a with
     |none=>simp[sa]at hh
     |some as=>
      simp only[sa]at hh⊢
      cases hc:C f as []with
      |none=>simp[hc]at hh
      |some q=>simp only[hc]at hh;simp only[hC _ _ _ _ hc];exact hh
   |N=>
    simp only[hm]at hh⊢
    cases sa:dc h a with
    |none=>simp[sa]at hh
    |some as=>
     simp only[sa]at hh⊢
     cases hc:C f as []with
     |none=>simp[hc]at hh
     |some q=>simp only[hc]at hh;simp only[hC _ _ _ _ hc];exact hh
   |K=>
    simp only[hm]at hh⊢
    cases hs:dc [] a with
    |some as=>
     simp only[hs]at hh⊢
     cases hc:C f as []with
     |none=>simp[hc]at hh
     |some q=>simp only[hc]at hh;simp only[hC _ _ _ _ hc];exact hh
    |none=>
     simp only[hs]at hh⊢;split at hh
     ·cases sa:dc h a with
      |none=>simp[sa]at hh
      |some as=>
       simp only[sa]at hh⊢
       cases hc:C f as []with
       |none=>simp[hc]at hh
       |some q=>simp only[hc]at hh;simp only[hC _ _ _ _ hc];exact hh
     ·cases hh
   |R=>
    simp only[hm]at hh⊢
    cases hc:C f a h with
    |none=>simp[hc]at hh
    |some q=>simp only[hc]at hh;simp only[hC _ _ _ _ hc];exact hh
   |V=>
    simp only[hm]at hh⊢
    cases hs:dc [] a with
    |some as=>
     simp only[hs]at hh⊢
     cases hc:C f as []with
     |none=>simp[hc]at hh
     |some q=>simp only[hc]at hh;simp only[hC _ _ _ _ hc];exact hh
    |none=>simp only[hs]at hh⊢;exact Aj hC f a h r hh
   |X=>
    simp only[hm]at hh⊢
    cases hs:dc [] a with
    |some as=>
     simp only[hs]at hh⊢
     cases hc:C f as []with
     |none=>simp[hc]at hh
     |some q=>simp only[hc]at hh;simp only[hC _ _ _ _ hc];exact hh
    |none=>simp only[hs]at hh⊢;exact Aj hC f a h r hh
theorem Al{cf:eP}{C C':q0}(hC: ∀f a h r,C f a h=some r->C' f a h=some r){K K':St->Option Out}(hK: ∀st r,K st=some r->K' st=some r)
  (d:Bool) (o:Oper) (st:St) (r:Out) (h:fM cf C d o st K=some r):fM cf C' d o st K'=some r:=by
   unfold fM at h⊢
   cases ho:aV cf st.tm st.hp o.op with
   |none=>simp[ho]at h
   |some q=>
    cases q with
    |val v h1=>simp only[ho]at h⊢;exact hK _ _ h
    |jI v=>simp only[ho]at h⊢;exact h
    |call f args=>
     simp only[ho]at h⊢;generalize(d&&(zC o.op&& !sB (cf.M f)))=g at h⊢
     cases g with
     |true=>exact h
     |false=>
     simp only at h⊢
     cases hc:cj cf C f args st.hp with
     |none=>simp[hc]at h
     |some q=>
      simp only[hc]at h;simp only[Ak hC _ _ _ _ hc]
      cases q with
      |ret v h1=>exact hK _ _ h
      |jI v h1=>exact h
theorem CZ{cf:eP}{C C':q0}(hC: ∀f a h r,C f a h=some r->C' f a h=some r)(d:Bool)(ops:Array Oper): ∀(l:List Oper)(st:St)(r:Out),kB cf C d ops l st=some r->kB cf C' d ops l st=some r:=by
 intro l
 induction l with
 |nil=>intro st r h;exact h
 |cons o rest ih=>
  intro st r h;simp only[kB]at h⊢;generalize eL ops o st.tm=g at h⊢
  cases g with
  |none=>exact Al hC (rf ih) d _ _ _ h
  |some t=>
   simp only at h⊢;split at h
   ·rename_i hp;rw[if_pos hp];generalize Gp t (aV cf st.tm st.hp o.op) _=q at h⊢
    cases q with
    |none=>exact h
    |some q=>cases q with
     |val v h1=>exact ih _ _ h
     |call f a=>exact h
     |jI v=>exact h
   ·rename_i hp;rw[if_neg hp]
    cases t with
    |false=>exact ih _ _ h
    |true=>exact Al hC (rf ih) d _ _ _ h
theorem ot{cf:eP}{C C':q0}{L L':O6}(hC: ∀f a h r,C f a h=some r->C' f a h=some r)(hL: ∀c st r,L c st=some r->L' c st=some r):
  ∀(c:Code)(st:St)(r:Out),cQ cf C L c st=some r->cQ cf C' L' c st=some r:=by
   intro c
   induction c with
   |region id ops d=>intro st r h;simp only[cQ]at h⊢;exact JF (CZ hC _ _ _ _) h
   |seq a b sC sD=>
    intro st r h;simp only[cQ]at h⊢
    cases ha:cQ cf C L a st with
    |none=>simp[ha]at h
    |some q=>
     simp only[ha]at h;simp only[sC _ _ ha]
     cases q with
     |norm fb=>exact sD _ _ h
     |_=>exact h
   |cond c a b sC sD=>
    intro st r h;simp only[cQ]at h⊢;generalize ev cf.G st.tm c=e at h⊢
    match e,h with
    |some (.bool true),h=>exact sC _ _ h
    |some (.bool false),h=>exact sD _ _ h
   |block id c ih=>
    intro st r h;simp only[cQ]at h⊢
    cases ha:cQ cf C L c st with
    |none=>simp[ha]at h
    |some q=>simp only[ha]at h;simp only[ih _ _ ha];exact h
   |loop c ih=>intro st r h;simp only[cQ]at h⊢;exact hL _ _ _ h
   |scope c ih=>intro st r h;simp only[cQ]at h⊢;exact ih _ _ h
   |skip=>intro st r h;simpa only[cQ]using h
   |exit id=>intro st r h;simpa only[cQ]using h
   |label id=>intro st r h;simpa only[cQ]using h
   |ret=>intro st r h;simpa only[cQ]using h
   |rangeFunc f p a b _ _=>intro st r h;simp[cQ]at h
   |goto l=>intro st r h;simp[cQ]at h
   |refuse w=>intro st r h;simp[cQ]at h
theorem An{cf:eP}{C C':q0}{L L':O6}(hC: ∀f a h r,C f a h=some r->C' f a h=some r)(hL: ∀c st r,L c st=some r->L' c st=some r)
  (f:FuncId) (args:List af) (h:aG) (r:ef) (hh:nJ cf C L f args h=some r):nJ cf C' L' f args h=some r:=by
   unfold nJ at hh⊢
   cases hp:cf.pr f with
   |some p=>simp only[hp]at hh⊢;exact hh
   |none=>
    simp only[hp]at hh⊢
    cases hf:cf.P.funcs[f]? with
    |none=>simp[hf]at hh
    |some fn=>
     simp only[hf]at hh⊢
     cases hb:fn.body with
     |none=>simp[hb]at hh
     |some c=>
      simp only[hb]at hh⊢
      cases he:cQ cf C L c ⟨lP args,h⟩with
      |none=>simp[he,qx]at hh
      |some q=>rw[he]at hh;rw[ot hC hL _ _ _ he];exact hh
theorem yD{cf:eP}{C C':q0}{L L':O6}(hC: ∀f a h r,C f a h=some r->C' f a h=some r)(hL: ∀c st r,L c st=some r->L' c st=some r)
  (c:Code) (st:St) (r:Out) (hh:iN cf C L c st=some r):iN cf C' L' c st=some r:=by
   unfold iN at hh⊢
   cases he:cQ cf C L c st with
   |none=>simp[he]at hh
   |some q=>
    rw[he]at hh;rw[ot hC hL _ _ _ he]
    cases q with
    |norm fb=>exact hL _ _ _ hh
    |_=>exact hh
theorem vJ(cf:eP): ∀n,(∀f a h r,(n0 cf n).1 f a h=some r->(n0 cf (n+1)).1 f a h=some r)/\ ∀c st r,(n0 cf n).2 c st=some r->(n0 cf (n+1)).2 c st=some r:=by
 intro n
 induction n with
 |zero=>exact⟨fun f a h r hh=>by simp[n0]at hh,fun c st r hh=>by simp[n0]at hh⟩
 |succ n ih=>exact⟨fun f a h r hh=>An ih.1 ih.2 f a h r hh,fun c st r hh=>yD ih.1 ih.2 c st r hh⟩
theorem C4(cf:eP)(f:FuncId)(a:List af)(h:aG):Py fun n=>(n0 cf n).1 f a h:=fun n r=>(vJ cf n).1 f a h r
theorem Ao(cf:eP)(c:Code)(st:St):Py fun n=>(n0 cf n).2 c st:=fun n r=>(vJ cf n).2 c st r
theorem xx(cf:eP){n m:Nat}(h:n<=m):(∀f a hp r,(n0 cf n).1 f a hp=some r->(n0 cf m).1 f a hp=some r)/\ ∀c st r,(n0 cf n).2 c st=some r->(n0 cf m).2 c st=some r:=
 ⟨fun f a hp r hh=>(C4 cf f a hp).le h hh,fun c st r hh=>(Ao cf c st).le h hh⟩
theorem El(cf:eP)(n:Nat)(f:FuncId)(a:List af)(h:aG)(r:ef)(hh:(n0 cf n).1 f a h=some r):call cf f a h=some r:=Pz (C4 cf f a h) hh
theorem Ap(cf:eP)(n:Nat)(c:Code)(st:St)(r:Out)(hh:(n0 cf n).2 c st=some r):je cf c st=some r:=Pz (Ao cf c st) hh
theorem C6(cf:eP){j:Bool}(f:FuncId)(a:List af)(h:aG)(r:ef)(hh:qw j (call cf) f a h=some r): ∃n,qw j (n0 cf n).1 f a h=some r:=by
 unfold qw at hh;split at hh
 ·rename_i as hs
  cases hc:call cf f as []with
  |none=>simp[hc]at hh
  |some q=>
   obtain⟨n,hn⟩:=gi hc;exact⟨n,by unfold qw;simp only[hs,hn];simpa only[hc]using hh⟩
 ·cases hh
theorem Nf(cf:eP)(f:FuncId)(a:List af)(h:aG)(r:ef)(hh:cj cf (call cf) f a h=some r): ∃n,cj cf (n0 cf n).1 f a h=some r:=by
 unfold cj at hh
 cases hm:cf.M f with
 |F=>
  simp only[hm]at hh;obtain⟨n,hn⟩:=gi hh
  exact⟨n,by unfold cj;simp only[hm];exact hn⟩
 |P=>
  simp only[hm]at hh
  cases hs:dc [] a with
  |some as=>
   simp only[hs]at hh
   cases hc:call cf f as []with
   |none=>simp[hc]at hh
   |some q=>
    obtain⟨n,hn⟩:=gi hc
    exact⟨n,by unfold cj;simp only[hm,hs,hn];simpa only[hc]using hh⟩
  |none=>
   simp only[hs]at hh
   cases sa:dc h a with
   |none=>simp[sa]at hh
   |some as=>
    simp only[sa]at hh
    cases hc:call cf f as []with
    |none=>simp[hc]at hh
    |some q=>
     obtain⟨n,hn⟩:=gi hc
     exact⟨n,by unfold cj;simp only[hm,hs,sa,hn];simpa only[hc]using hh⟩
 |N=>
  simp only[hm]at hh
  cases sa:dc h a with
  |none=>simp[sa]at hh
  |some as=>
   simp only[sa]at hh
   cases hc:call cf f as []with
   |none=>simp[hc]at hh
   |some q=>
    obtain⟨n,hn⟩:=gi hc
    exact⟨n,by unfold cj;simp only[hm,sa,hn];simpa only[hc]using hh⟩
 |K=>
  simp only[hm]at hh
  cases hs:dc [] a with
  |some as=>
   simp only[hs]at hh
   cases hc:call cf f as []with
   |none=>simp[hc]at hh
   |some q=>
    obtain⟨n,hn⟩:=gi hc
    exact⟨n,by unfold cj;simp only[hm,hs,hn];simpa only[hc]using hh⟩
  |none=>
   simp only[hs]at hh;split at hh
   ·rename_i hk
    cases sa:dc h a with
    |none=>simp[sa]at hh
    |some as=>
     simp only[sa]at hh
     cases hc:call cf f as []with
     |none=>simp[hc]at hh
     |some q=>
      obtain⟨n,hn⟩:=gi hc;exact⟨n,by unfold cj;simp only[hm,hs,hk,sa,hn];simpa only[hc]using hh⟩
   ·cases hh
 |R=>
  simp only[hm]at hh
  cases hc:call cf f a h with
  |none=>simp[hc]at hh
  |some q=>
   obtain⟨n,hn⟩:=gi hc
   exact⟨n,by unfold cj;simp only[hm,hn];simpa only[hc]using hh⟩
 |V=>
  simp only[hm]at hh
  cases hs:dc [] a with
  |some as=>
   simp only[hs]at hh
   cases hc:call cf f as []with
   |none=>simp[hc]at hh
   |some q=>
    obtain⟨n,hn⟩:=gi hc
    exact⟨n,by unfold cj;simp only[hm,hs,hn];simpa only[hc]using hh⟩
  |none=>
   simp only[hs]at hh;obtain⟨n,hn⟩:=C6 cf f a h r hh
   exact⟨n,by unfold cj;simp only[hm,hs];exact hn⟩
 |X=>
  simp only[hm]at hh
  cases hs:dc [] a with
  |some as=>
   simp only[hs]at hh
   cases hc:call cf f as []with
   |none=>simp[hc]at hh
   |some q=>
    obtain⟨n,hn⟩:=gi hc
    exact⟨n,by unfold cj;simp only[hm,hs,hn];simpa only[hc]using hh⟩
  |none=>
   simp only[hs]at hh;obtain⟨n,hn⟩:=C6 cf f a h r hh;exact⟨n,by unfold cj;simp only[hm,hs];exact hn⟩
theorem C7(cf:eP){K:St->Option Out}{K':Nat->St->Option Out}(hK: ∀st r,K st=some r-> ∃n,K' n st=some r)(hm: ∀n m,n<=m-> ∀st r,K' n st=some r->K' m st=some r)
  (d:Bool) (o:Oper) (st:St) (r:Out) (h:fM cf (call cf) d o st K=some r): ∃n,fM cf (n0 cf n).1 d o st (K' n)=some r:=by
   unfold fM at h
   cases ho:aV cf st.tm st.hp o.op with
   |none=>simp[ho]at h
   |some q=>
    cases q with
    |val v h1=>
     simp only[ho]at h;obtain⟨n,hn⟩:=hK _ _ h
     exact⟨n,by simp only[fM,ho];exact hn⟩
    |jI v=>simp only[ho]at h;exact⟨0,by simp only[fM,ho];exact h⟩
    |call f args=>
     simp only[ho]at h
     cases hg:d&&(zC o.op&& !sB (cf.M f))with
     |true=>simp[hg]at h
     |false=>
     simp only[hg]at h
     cases hc:cj cf (call cf) f args st.hp with
     |none=>simp[hc]at h
     |some q=>
      simp only[hc]at h;obtain⟨n,hn⟩:=Nf cf _ _ _ _ hc
      cases q with
      |ret v h1=>
       obtain⟨m,hk⟩:=hK _ _ h;refine⟨max n m,?_⟩;simp only[fM,ho,hg,Ak (xx cf (Nat.le_max_left n m)).1 _ _ _ _ hn]
       exact hm _ _ (Nat.le_max_right n m) _ _ hk
      |jI v h1=>exact⟨n,by simp only[fM,ho,hg,hn];exact h⟩
theorem PA(cf:eP)(d:Bool)(ops:Array Oper): ∀(l:List Oper)(st:St)(r:Out),kB cf (call cf) d ops l st=some r-> ∃n,kB cf (n0 cf n).1 d ops l st=some r:=by
 intro l
 induction l with
 |nil=>intro st r h;exact⟨0,h⟩
 |cons o rest ih=>
  have hm: ∀n m,n<=m-> ∀st r,kB cf (n0 cf n).1 d ops rest st=some r->kB cf (n0 cf m).1 d ops rest st=some r:=
   fun n m hl st r=>CZ (xx cf hl).1 d ops rest st r
  intro st r h;simp only[kB]at h⊢;generalize eL ops o st.tm=g at h⊢
  cases g with
  |none=>exact C7 cf (CY ih) (fun n m hl=>rf (hm n m hl)) d _ _ _ h
  |some t=>
   simp only at h⊢
   by_cases hp:kW o.op=true
   ·simp only[if_pos hp]at h⊢;generalize Gp t (aV cf st.tm st.hp o.op) _=q at h⊢
    cases q with
    |none=>cases h
    |some q=>cases q with
     |val v h1=>exact ih _ _ h
     |call f a=>cases h
     |jI v=>cases h
   ·simp only[if_neg hp]at h⊢
    cases t with
    |false=>exact ih _ _ h
    |true=>exact C7 cf (CY ih) (fun n m hl=>rf (hm n m hl)) d _ _ _ h
theorem C8(cf:eP): ∀(c:Code)(st:St)(r:Out),cQ cf (call cf) (je cf) c st=some r-> ∃n,cQ cf (n0 cf n).1 (n0 cf n).2 c st=some r:=by
 intro c
 induction c with
 |region id ops d=>
  intro st r h;simp only[cQ]at h⊢;obtain⟨n,hn⟩:=PA cf _ _ _ _ _ (rh h).1
  exact⟨n,by rw[hn];rw[(rh h).1]at h;exact h⟩
 |seq a b sC sD=>
  intro st r h;simp only[cQ]at h
  cases ha:cQ cf (call cf) (je cf) a st with
  |none=>simp[ha]at h
  |some q=>
   simp only[ha]at h;obtain⟨n,hn⟩:=sC _ _ ha
   cases q with
   |norm fb=>
    obtain⟨m,hk⟩:=sD _ _ h;refine⟨max n m,?_⟩;have hl:=xx cf (Nat.le_max_left n m);have hr:=xx cf (Nat.le_max_right n m);simp only[cQ,ot hl.1 hl.2 _ _ _ hn]
    exact ot hr.1 hr.2 _ _ _ hk
   |exit j s=>exact⟨n,by simp only[cQ,hn];exact h⟩
   |ret s=>exact⟨n,by simp only[cQ,hn];exact h⟩
   |jI v hh=>exact⟨n,by simp only[cQ,hn];exact h⟩
 |cond c a b sC sD=>
  intro st r h;simp only[cQ]at h⊢;generalize ev cf.G st.tm c=e at h⊢
  match e,h with
  |some (.bool true),h=>exact sC _ _ h
  |some (.bool false),h=>exact sD _ _ h
 |block id c ih=>
  intro st r h;simp only[cQ]at h
  cases ha:cQ cf (call cf) (je cf) c st with
  |none=>simp[ha]at h
  |some q=>
   simp only[ha]at h;obtain⟨n,hn⟩:=ih _ _ ha
   exact⟨n,by simp only[cQ,hn];exact h⟩
 |loop c ih=>intro st r h;simp only[cQ]at h⊢;exact gi h
 |scope c ih=>intro st r h;simp only[cQ]at h⊢;exact ih _ _ h
 |skip=>intro st r h;exact⟨0,by simpa only[cQ]using h⟩
 |exit id=>intro st r h;exact⟨0,by simpa only[cQ]using h⟩
 |label id=>intro st r h;exact⟨0,by simpa only[cQ]using h⟩
 |ret=>intro st r h;exact⟨0,by simpa only[cQ]using h⟩
 |rangeFunc f p a b _ _=>intro st r h;simp[cQ]at h
 |goto l=>intro st r h;simp[cQ]at h
 |refuse w=>intro st r h;simp[cQ]at h
theorem vK(cf:eP)(f:FuncId)(args:List af)(h:aG):call cf f args h=nJ cf (call cf) (je cf) f args h:=by
 refine L0 fun r=>⟨fun hh=>?_,fun hh=>?_⟩
 ·obtain⟨n,hn⟩:=gi hh;have Sm:=(vJ cf n).1 _ _ _ _ hn;exact An (fun f a h r=>El cf n f a h r) (fun c st r=>Ap cf n c st r) _ _ _ _ Sm
 ·have: ∃n,nJ cf (n0 cf n).1 (n0 cf n).2 f args h=some r:=by
   unfold nJ at hh
   cases hp:cf.pr f with
   |some p=>simp only[hp]at hh;exact⟨0,by unfold nJ;simp only[hp];exact hh⟩
   |none=>
    simp only[hp]at hh
    cases hf:cf.P.funcs[f]? with
    |none=>simp[hf]at hh
    |some fn=>
     simp only[hf]at hh
     cases hb:fn.body with
     |none=>simp[hb]at hh
     |some c=>
      simp only[hb]at hh
      cases he:cQ cf (call cf) (je cf) c ⟨lP args,h⟩with
      |none=>simp[he,qx]at hh
      |some q=>
       obtain⟨n,hn⟩:=C8 cf _ _ _ he;exact⟨n,by unfold nJ;simp only[hp,hf,hb,hn];rw[he]at hh;exact hh⟩
  obtain⟨n,hn⟩:=this;exact El cf (n+1) _ _ _ _ hn
theorem vL(cf:eP)(c:Code)(st:St):je cf c st=iN cf (call cf) (je cf) c st:=by
 refine L0 fun r=>⟨fun hh=>?_,fun hh=>?_⟩
 ·obtain⟨n,hn⟩:=gi hh;have Sm:=(vJ cf n).2 _ _ _ hn;exact yD (fun f a h r=>El cf n f a h r) (fun c st r=>Ap cf n c st r) _ _ _ Sm
 ·have: ∃n,iN cf (n0 cf n).1 (n0 cf n).2 c st=some r:=by
   unfold iN at hh
   cases he:cQ cf (call cf) (je cf) c st with
   |none=>simp[he]at hh
   |some q=>
    obtain⟨n,hn⟩:=C8 cf _ _ _ he;rw[he]at hh
    cases q with
    |norm fb=>
     obtain⟨m,hk⟩:=gi hh;refine⟨max n m,?_⟩;have hl:=xx cf (Nat.le_max_left n m);unfold iN;rw[ot hl.1 hl.2 _ _ _ hn]
     exact(xx cf (Nat.le_max_right n m)).2 _ _ _ hk
    |exit j s=>exact⟨n,by unfold iN;rw[hn];exact hh⟩
    |ret s=>exact⟨n,by unfold iN;rw[hn];exact hh⟩
    |jI v hp=>exact⟨n,by unfold iN;rw[hn];exact hh⟩
  obtain⟨n,hn⟩:=this;exact Ap cf (n+1) _ _ _ hn
end Go.Am

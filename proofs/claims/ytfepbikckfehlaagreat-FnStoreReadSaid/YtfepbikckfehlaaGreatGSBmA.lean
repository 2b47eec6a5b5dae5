/- The abstract machine 'Am': the Code of the model over values in the place of memory. Definitions; that the limits unfold. No Go here. -/
import Derived.Calls
import Derived.Scope
import Derived.Orders
set_option linter.unusedVariables false
set_option linter.unusedSimpArgs false
set_option maxHeartbeats 4000000
namespace Go.Am
abbrev ai:= @Option.map_eq_some_iff
abbrev aj:= @Bool.and_eq_true
abbrev aq:= @Int.toNat_natCast
abbrev au:= @List.getElem?_eq_getElem
abbrev az:= @List.getElem?_eq_some_iff
abbrev ar:= @List.drop_eq_getElem_cons
abbrev ay:= @List.getElem_mem
abbrev aB:= @Nat.le_refl
abbrev aJ:= @List.length_cons
abbrev aM:= @List.map_cons
abbrev aL:= @List.drop_length
abbrev aO:= @List.length_map
abbrev aV:= @List.mem_of_getElem?
abbrev aS:= @List.take_length
abbrev aU:= @List.append_nil
abbrev aX:= @Bool.true_and
abbrev aW:= @List.mem_cons
abbrev aY:= @IntKind.wrap_i64
abbrev bd:= @List.map_append
abbrev bg:= @Nat.zero_add
abbrev bh:= @Option.map_some
abbrev bj:= @List.mem_map
abbrev bk:= @List.length_eq_zero_iff
abbrev bp:= @List.getElem?_append_left
abbrev aG:= @List.all_eq_true
abbrev bu:= @List.mem_append
abbrev bw:= @Nat.le_trans
open Go
inductive af where
 |int (k:IntKind) (n:Int)
 |bool (b:Bool)
 |str (s:ByteArray)
 |nil
 |sl (xs:List af)
 |eY (xs:List af) (i off:Nat)
 |qZ
 |pN
 |x9
 |pO
 |own (id st len:Nat)
 |ptr (id i off:Nat)
 |map (id:Nat)
 |mQ (ks vs:List af)
 |it (id:Nat)
 |func (fn:Fn) (first captured:List af)
 |iface (t:TypeId) (v:af)
 |gv (g:Nat) (t:TypeId)
 |agg (cs:List af)
 |dX (vs:List af)
instance:Inhabited af:=⟨.nil⟩
def af.cells:af->List af
 | .agg cs=>cs
 |v=>[v]
def af.bE:af->Bool
 | .agg _=>false
 | .dX _=>false
 |_=>true
def af.isScalar:af->Bool
 | .int _ _=>true
 | .bool _=>true
 | .str _=>true
 |_=>false
def af.QK:af->Bool
 | .dX vs=>vs.all af.isScalar
 |v=>v.isScalar
inductive cJ where
 |box (x:af)
 |arr (sz:Nat) (es:List af)
 |oX (ks vs:List af)
 |iter (s:ByteArray) (pos:Nat)
 |dead
abbrev aC:=List cJ
structure St where
 tm:Nat->af
 hp:aC
inductive dz where
 |ret (v:af) (h:aC)
 |iK (v:af) (h:aC)
inductive Out where
 |norm (st:St)
 |exit (id:Nat) (st:St)
 |ret (st:St)
 |iK (v:af) (h:aC)
inductive HI where
 |val (v:af) (h:aC)
 |call (f:FuncId) (args:List af)
 |iK (v:af)
inductive Mode where
 |P|X|F|N|K|R|V
abbrev pP:=FuncId->List af->aC->Option dz
abbrev Ng:=Code->St->Option Out
structure dS where
 P:Program
 M:FuncId->Mode
 pr:FuncId->Option (List af->aC->Option dz)
 G:Nat->Option af
 pm:Nat->Nat->Nat->Option (List Nat)
def ld(p:List Nat)(o:Oper):Oper:={o with after:=(o.after.toList.map fun e=>{e with on:=p.idxOf e.on}).toArray,guard:=o.guard.map fun g=>(p.idxOf g.1,g.2)}
def kg(p:List Nat)(ops:Array Oper):List Nat->List Oper
 | []=>[]
 |i::is=>match ops[i]? with
  |some o=>ld p o::kg p ops is
  |none=>kg p ops is
def nY(p:List Nat)(ops:Array Oper):Array Oper:=(kg p ops p).toArray
def J4(pm:Nat->Nat->Nat->Option (List Nat))(id:Nat)(ops:Array Oper)(d:Bool):Array Oper:=match d with
 |false=>ops
 |true=>match pm id ops.size (((ops[0]?).bind (·.dst)).getD 0)with
  |some p=>nY p ops
  |none=>ops
def eU(tm:Nat->af)(d:Nat)(v:af):Nat->af:=fun k=>if k=d then v else tm k
def iN(tm:Nat->af)(d:Option Nat)(v:af):Nat->af:=match d with|some d=>eU tm d v|none=>tm
def q0:TypeDesc->Bool
 | .struct _=>true
 | .array _ _=>true
 |_=>false
def TB(P:Program)(t:TypeId):Option (Bool×Nat):=
 match P.underlying t,P.info? t with
 |some d,some i=>some (q0 d,i.size)
 |_,_=>none
def TC(P:Program)(s f:Nat):Option Nat:=
 match P.underlying s with
 |some (.struct fs)=>match fs[f]? with
  |some fd=>match P.info? fd.type with
   |some i=>if i.size=0 then none else some fd.offset
   |none=>none
  |none=>none
 |_=>none
def VM(P:Program)(s f:Nat):Option (Nat×TypeId):=
 match P.underlying s with
 |some (.struct fs)=>(fs[f]?).map fun fd=>(fd.offset,fd.type)
 |_=>none
def kT(P:Program)(t:TypeId):Option (TypeId×Nat):=
 match P.underlying t with
 |some (.slice e)=>match P.info? e with
  |some i=>if i.bytes<=4096/\i.size<=4096/\i.zero.map (fun z=>z.cells.size)=some i.size then some (e,i.size)else none
  |none=>none
 |_=>none
def Lo(P:Program)(t:TypeId):Option (Nat×TypeId×Nat):=
 match P.underlying t with
 |some (.array n e)=>match P.info? e with
  |some i=>some (n,e,i.size)
  |none=>none
 |_=>none
def QL:Value->Option af
 | .int k n=>some (.int k n)
 | .bool b=>some (.bool b)
 | .string s=>some (.str s)
 | .pointer none=>some .qZ
 | .slice none 0 0=>some .nil
 | .map none=>some .pN
 | .nilFunc=>some .x9
 | .nilIface=>some .pO
 |_=>none
def cp{α β:Type}(f:α->Option β):List α->Option (List β)
 | []=>some []
 |x::xs=>match f x,cp f xs with
  |some y,some ys=>some (y::ys)
  |_,_=>none
def XN:Value->Option af
 | .agg cs=>(cp QL cs.toList).map .agg
 |v=>QL v
def jo(P:Program)(t:TypeId):Option af:=((P.info? t).bind (·.zero)).bind XN
def ev(G:Nat->Option af)(tm:Nat->af):Operand->Option af
 | .tmp t=>some (tm t)
 | .const v=>XN v
 | .global g=>(G g).map fun v=>.eY [v] 0 0
 | .func f=>some (.func (.func f) [] [])
def bS(h:aC):Nat->af->Option af
 |0,_=>none
 |n+1,v=>match v with
  | .nil=>some (.sl [])
  | .own id st len=>match h[id]? with
   |some (.arr _ es)=>if st+len<=es.length then(cp (bS h n) ((es.drop st).take len)).map .sl else none
   |_=>none
  | .ptr id i off=>match h[id]? with
   |some (.box x)=>if i=0 then(bS h n x).map fun x=>.eY [x] i off else none
   |some (.arr _ es)=>(cp (bS h n) es).map fun xs=>.eY xs i off
   |_=>none
  | .map id=>match h[id]? with
   |some (.oX ks vs)=>match cp (bS h n) ks,cp (bS h n) vs with
    |some ks,some vs=>some (.mQ ks vs)
    |_,_=>none
   |_=>none
  | .it _=>none
  | .agg cs=>(cp (bS h n) cs).map .agg
  | .dX vs=>(cp (bS h n) vs).map .dX
  | .func fn a b=>match cp (bS h n) a,cp (bS h n) b with
   |some a,some b=>some (.func fn a b)
   |_,_=>none
  | .iface t v=>(bS h n v).map (.iface t)
  |v=>some v
def snap(h:aC)(v:af):Option af:=bS h 4194304 v
def cj(h:aC)(vs:List af):Option (List af):=cp (snap h) vs
def VN(t:Bool)(x y:af):af:=match t with
 |true=>x
 |false=>y
def ff(P:Program)(t:TypeId)(x:af)(off:Nat):Option af:=
 match TB P t with
 |some (true,s)=>if off+s<=x.cells.length then some (.agg ((x.cells.drop off).take s))else none
 |some (false,_)=>x.cells[off]?
 |none=>none
def jq(P:Program)(t:TypeId)(a:af)(h:aC):Option af:=
 match a with
 | .ptr id i off=>match h[id]? with
  |some (.box x)=>if i=0 then ff P t x off else none
  |some (.arr _ es)=>match es[i]? with
   |some x=>ff P t x off
   |none=>none
  |_=>none
 | .eY xs i off=>match xs[i]? with
  |some x=>ff P t x off
  |none=>none
 |_=>none
def yG(x:af)(off:Nat)(vs:List af):Option af:=
 match x with
 | .agg cs=>if off+vs.length<=cs.length then some (.agg (cs.take off++(vs++cs.drop (off+vs.length))))else none
 |_=>match off,vs with
  |0,[u]=>some u
  |_,_=>none
def q8(P:Program)(t:TypeId)(a v:af)(h:aC):Option aC:=
 match a,TB P t with
 | .ptr id i off,some (_,s)=>
  if v.cells.length=s/\v.cells.all af.bE=true then match h[id]? with
   |some (.box x)=>if i=0 then(yG x off v.cells).map fun x'=>h.set id (.box x')else none
   |some (.arr sz es)=>match es[i]? with
    |some x=>(yG x off v.cells).map fun x'=>h.set id (.arr sz (es.set i x'))
    |none=>none
   |_=>none
  else none
 |_,_=>none
def nP(h:aC)(sz:Nat)(es:List af):af×aC:=(.own h.length 0 es.length,h++[.arr sz es])
def lD(h:aC)(sz n:Nat)(es:List af):af×aC:=match n with
 |0=>(.nil,h)
 |_+1=>nP h sz es
def Ef(h:aC)(v:af):af×aC:=(.ptr h.length 0 0,h++[.box v])
def br:Nat:=4294967296
def kh(h:aC):af->Option (List af)
 | .nil=>some []
 | .sl xs=>some xs
 | .own id st len=>match h[id]? with
  |some (.arr _ es)=>if st+len<=es.length then some ((es.drop st).take len)else none
  |_=>none
 | .str s=>some (s.data.toList.map fun b=>.int .u8 b.toNat)
 |_=>none
def hU(sz:Nat)(y:af):Bool:=y.cells.length==sz&&y.cells.all af.bE
def hY(P:Program)(t:TypeId)(s x:af)(h:aC):Option (af×aC):=
 match kT P t,kh h x with
 |some (_,sz),some ys=>
  if ys.all (hU sz)then
   match s with
   | .nil=>if ys=[]then some (.nil,h)else if ys.length<=br then some (nP h sz ys)else none
   | .own id st len=>match h[id]? with
    |some (.arr iz es)=>
     if st=0/\iz=sz/\len<=es.length then
      if ys=[]then some (.own id 0 len,h.set id (.arr iz (es.take len)))
      else if len+ys.length<=br then some (nP (h.set id .dead) sz (es.take len++ys))else none
     else none
    |_=>none
   |_=>none
  else none
 |_,_=>none
def tY(h:aC):af->Option Int
 | .nil=>some 0
 | .sl xs=>some xs.length
 | .own _ _ len=>some len
 | .str s=>some s.size
 | .pN=>some 0
 | .map id=>match h[id]? with
  |some (.oX ks _)=>some ks.length
  |_=>none
 | .mQ ks _=>some ks.length
 |_=>none
def NA(op:BinOp)(k:IntKind)(a b:Int):Option af:=
 match op with
 | .add=>some (.int k (k.wrap (a+b)))
 | .sub=>some (.int k (k.wrap (a-b)))
 | .mul=>some (.int k (k.wrap (a*b)))
 | .quo=>if b=0 then none else some (.int k (k.wrap (a.tdiv b)))
 | .rem=>if b=0 then none else some (.int k (a.tmod b))
 | .and=>some (.int k (k.wrap (BitVec.ofInt k.bits a &&& BitVec.ofInt k.bits b).toNat))
 | .or=>some (.int k (k.wrap (BitVec.ofInt k.bits a ||| BitVec.ofInt k.bits b).toNat))
 | .xor=>some (.int k (k.wrap (BitVec.ofInt k.bits a ^^^ BitVec.ofInt k.bits b).toNat))
 | .eql=>some (.bool (a==b))
 | .neq=>some (.bool (a != b))
 | .lss=>some (.bool (decide (a<b)))
 | .leq=>some (.bool (decide (a<=b)))
 | .gtr=>some (.bool (decide (a>b)))
 | .geq=>some (.bool (decide (a>=b)))
 | .shr=>if b<0 then none else some (.int k (a.fdiv (2^min b.toNat k.bits)))
 |_=>none
def QM(op:BinOp)(a b:ByteArray):Option af:=
 match op with
 | .add=>if a.size+b.size<=br then some (.str (a++b))else none
 | .eql=>some (.bool (a.toList==b.toList))
 | .neq=>some (.bool (!(a.toList==b.toList)))
 | .lss=>some (.bool (Op.bytesLess a.toList b.toList))
 |_=>none
inductive FK where
 |i|b|s
def ez:List FK->List af->List af->Option Bool
 | [],[],[]=>some true
 | .i::ks,.int k a::xs,.int k' b::ys=>if k=k' then(ez ks xs ys).map (fun r=>a==b&&r)else none
 | .b::ks,.bool a::xs,.bool b::ys=>(ez ks xs ys).map (fun r=>a==b&&r)
 | .s::ks,.str a::xs,.str b::ys=>(ez ks xs ys).map (fun r=>a==b&&r)
 |_,_,_=>none
def yH(K:TypeId->Option (List FK))(P:Program):List Field->Nat->Option (List FK)
 | [],_=>some []
 |f::fs,off=>match K f.type,P.info? f.type with
  |some l,some i=>if f.name≠ "_" /\f.offset=off/\i.size=l.length then(yH K P fs (off+l.length)).map (l++ ·)else none
  |_,_=>none
def sQ(P:Program):Nat->TypeId->Option (List FK)
 |0,_=>none
 |d+1,t=>match P.underlying t with
  |some (.int _)=>some [.i]
  |some .bool=>some [.b]
  |some .string=>some [.s]
  |some (.struct fs)=>if P.stoodInHeld t then none else yH (sQ P d) P fs.toList 0
  |_=>none
def TD(P:Program)(t:TypeId):Option (List FK):=if P.eqGuardType P.depth t then none else sQ P 6 t
def Sz(P:Program)(t:TypeId)(x y:af):Option Bool:=
 match x,y with
 | .bool a,.bool b=>match P.underlying t with|some .bool=>some (a==b)|_=>none
 | .iface _ _,.pO=>match P.underlying t with|some (.interface _)=>some false|_=>none
 | .ptr _ _ _,.qZ=>match P.underlying t with|some (.pointer _)=>some false|_=>none
 | .eY _ _ _,.qZ=>match P.underlying t with|some (.pointer _)=>some false|_=>none
 | .qZ,.qZ=>match P.underlying t with|some (.pointer _)=>some true|_=>none
 | .agg xs,.agg ys=>match P.underlying t,TD P t with
  |some (.struct _),some ks=>ez ks xs ys
  |_,_=>none
 |_,_=>none
def yI:Operand->Bool
 | .const _=>true
 |_=>false
def CC:Operand->Bool
 | .const (.slice none 0 0)=>true
 |_=>false
def vH(P:Program)(t:TypeId)(x y:Operand)(a b:af):Option Bool:=
 match a,b with
 | .pO,.pO=>match P.underlying t with
  |some (.interface _)=>if yI x||yI y then some true else none
  |_=>none
 | .sl (_::_),_=>match P.underlying t with
  |some (.slice _)=>if CC y then some false else none
  |_=>none
 |_,_=>none
def yJ(P:Program)(op:BinOp)(t:TypeId)(xo yo:Operand)(x y:af):Option af:=
 match x,y with
 | .int k a,.int k' b=>if k=k' then NA op k a b else none
 | .str a,.str b=>QM op a b
 |x,y=>match op with
  | .eql=>match vH P t xo yo x y with
   |some b=>some (.bool b)
   |none=>(Sz P t x y).map .bool
  | .neq=>match vH P t xo yo x y with
   |some b=>some (.bool (!b))
   |none=>(Sz P t x y).map fun b=>.bool (!b)
  |_=>none
def Yo(op:UnOp)(x:af):Option af:=
 match op,x with
 | .neg,.int k n=>some (.int k (k.wrap (0-n)))
 | .not,.bool b=>some (.bool (!b))
 |_,_=>none
def bytesOf:List af->Option (List UInt8)
 | []=>some []
 | .int .u8 n::r=>(bytesOf r).map (UInt8.ofNat n.toNat:: ·)
 |_=>none
def Eg(x:af)(h:aC):Option af:=
 match x with
 | .str _=>none
 |x=>(kh h x).bind fun xs=>(bytesOf xs).map fun l=>.str ⟨l.toArray⟩
def NB(P:Program)(src dst:TypeId)(x:af)(h:aC):Option af:=
 match P.underlying src,P.underlying dst with
 |some (.int _),some (.int k)=>match x with
  | .int _ n=>some (.int k (k.wrap n))
  |_=>none
 |some .string,some .string=>match x with
  | .str s=>some (.str s)
  |_=>none
 |some (.slice e),some .string=>match P.underlying e with
  |some (.int .u8)=>Eg x h
  |_=>none
 |_,_=>none
def NC:af->Option Int
 | .int _ n=>some n
 |_=>none
def lZ(P:Program)(t:TypeId)(x:af)(lo hi mx:Option Int)(h:aC):Option af:=
 match x,mx with
 | .str s,none=>
  match P.underlying t with
  |some .string=>
   let l:=lo.getD 0
   let u:=hi.getD s.size
   if 0<=l/\l<=u/\u<=s.size then some (.str (s.extract l.toNat u.toNat))else none
  |_=>none
 | .sl xs,none=>
  match kT P t with
  |some (_,sz)=>
   let l:=lo.getD 0
   let u:=hi.getD xs.length
   if 0<=l/\l<=u/\u<=xs.length/\xs.all (fun y=>y.cells.length==sz)then some (.sl ((xs.drop l.toNat).take (u.toNat-l.toNat)))else none
  |_=>none
 | .own id st len,none=>
  match kT P t,h[id]? with
  |some (_,sz),some (.arr iz es)=>
   let l:=lo.getD 0
   let u:=hi.getD len
   if 0<=l/\l<=u/\u<=len/\iz=sz then some (.own id (st+l.toNat) (u.toNat-l.toNat))else none
  |_,_=>none
 | .nil,none=>
  match kT P t with
  |some _=>if lo.getD 0=0/\hi.getD 0=0 then some .nil else none
  |_=>none
 |_,_=>none
def tZ(P:Program)(t:TypeId)(x:af)(i:Int)(h:aC):Option af:=
 match x with
 | .own id st len=>match kT P t,h[id]? with
  |some (_,sz),some (.arr iz _)=>if 0<=i/\i<len/\iz=sz then some (.ptr id (st+i.toNat) 0)else none
  |_,_=>none
 | .sl xs=>match kT P t,xs[i.toNat]? with
  |some (_,sz),some x=>if 0<=i/\x.cells.length=sz then some (.eY [x] 0 0)else none
  |_,_=>none
 | .ptr id j off=>match Lo P t with
  |some (n,_,sz)=>if 0<=i/\i<n then some (.ptr id j (off+i.toNat*sz))else none
  |_=>none
 | .eY xs j off=>match Lo P t with
  |some (n,_,sz)=>if 0<=i/\i<n then some (.eY xs j (off+i.toNat*sz))else none
  |_=>none
 |_=>none
def yK(P:Program)(t:TypeId)(x:af)(i:Int):Option af:=
 match x with
 | .str s=>match P.underlying t with
  |some .string=>if 0<=i then match s[i.toNat]? with
   |some b=>some (.int .u8 b.toNat)
   |none=>none
    else none
  |_=>none
 | .agg cs=>match Lo P t with
  |some (n,e,sz)=>if 0<=i/\i<n then ff P e (.agg cs) (i.toNat*sz)else none
  |_=>none
 |_=>none
def HJ(P:Program)(t:TypeId)(x:af)(f:Nat):Option af:=
 match x,VM P t f with
 | .agg cs,some (off,ft)=>ff P ft (.agg cs) off
 |_,_=>none
def jr(es:List af)(sz:Nat):List (Nat×af)->Option (List af)
 | []=>some es
 |(i,v)::r=>if i<es.length/\v.cells.length=sz then jr (es.set i v) sz r else none
def jU(pl:Nat->Option (Nat×Nat))(cs:List af):List (Nat×af)->Option (List af)
 | []=>some cs
 |(i,v)::r=>match pl i with
  |some (off,sz)=>if v.cells.length=sz/\off+sz<=cs.length then jU pl (cs.take off++(v.cells++cs.drop (off+sz))) r else none
  |none=>none
def yL(P:Program)(t:TypeId)(i:Nat):Option (Nat×Nat):=
 match P.underlying t with
 |some (.struct fs)=>match fs[i]? with
  |some fd=>(P.info? fd.type).map fun j=>(fd.offset,j.size)
  |none=>none
 |some (.array _ e)=>(P.info? e).map fun j=>(i*j.size,j.size)
 |_=>none
def yk(P:Program)(t:TypeId):Bool:=
 match P.underlying t with
 |some (.struct fs)=>fs.toList.all fun f=>(P.info? f.type).isSome
 |some (.array _ e)=>(P.info? e).isSome
 |_=>false
def Eh(P:Program)(kt:TypeId)(a b:af):Option Bool:=
 match P.underlying kt,a,b with
 |some (.int _),.int k x,.int k' y=>if k=k' then some (x==y)else none
 |some .string,.str x,.str y=>some (x==y)
 |_,_,_=>none
def nZ(P:Program)(kt:TypeId)(k:af):List af->Nat->Option (Option Nat)
 | [],_=>some none
 |x::xs,i=>match Eh P kt k x with
  |some true=>some (some i)
  |some false=>nZ P kt k xs (i+1)
  |none=>none
def ND(P:Program)(t:TypeId):Option (TypeId×TypeId):=
 match P.underlying t with
 |some (.map k e)=>some (k,e)
 |_=>none
def isKey(P:Program)(kt:TypeId)(k:af):Bool:=
 match P.underlying kt,k with
 |some (.int k),.int k' _=>decide (k'=k)
 |some .string,.str _=>true
 |_,_=>false
def wZ(P:Program)(t:TypeId)(m k:af)(ok:Bool)(h:aC):Option af:=
 match ND P t with
 |some (kt,et)=>
  if isKey P kt k then
   match(match m with
    | .pN=>some ([],[])
    | .mQ ks vs=>some (ks,vs)
    | .map id=>match h[id]? with
     |some (.oX ks vs)=>some (ks,vs)
     |_=>none
    |_=>none)with
   |some (ks,vs)=>match nZ P kt k ks 0 with
    |some (some i)=>match vs[i]? with
     |some v=>some (if ok then .dX [v,.bool true]else v)
     |none=>none
    |some none=>match jo P et with
     |some z=>some (if ok then .dX [z,.bool false]else z)
     |none=>none
    |none=>none
   |none=>none
  else none
 |none=>none
def CD(P:Program)(t:TypeId)(m k v:af)(h:aC):Option aC:=
 match ND P t,m with
 |some (kt,_),.map id=>match h[id]? with
  |some (.oX ks vs)=>
   if isKey P kt k then
    match nZ P kt k ks 0 with
    |some (some i)=>some (h.set id (.oX ks (vs.set i v)))
    |some none=>some (h.set id (.oX (ks++[k]) (vs++[v])))
    |none=>none
   else none
  |_=>none
 |_,_=>none
def yM(v:af)(i:Nat):Option af:=
 match v with
 | .dX vs=>vs[i]?
 |_=>none
def SA:af->Bool
 | .ptr _ _ _=>true
 | .eY _ _ _=>true
 | .iface _ _=>true
 | .func (.func _) _ _=>true
 |_=>false
def Ei(P:Program)(t:TypeId)(l c:af)(h:aC):Option (af×aC):=
 match kT P t,l,c with
 |some (e,sz),.int _ l,.int _ c=>
  if 0<=l/\l<=c/\c<=(br:Int)then
   match jo P e with
   |some z=>if z.cells.length=sz then some (.own h.length 0 l.toNat,h++[.arr sz (List.replicate c.toNat z)])else none
   |none=>none
  else none
 |_,_,_=>none
def NF(P:Program)(t:TypeId)(name:String):Option FuncId:=
 match P.info? t with
 |some i=>match i.methods.find? (·.name==name)with
  |some m=>if m.path= #[]then match m.func with
   |some (f,QN)=>match P.underlying t,QN with
    |some (.pointer _),true=>some f
    |some (.pointer _),false=>none
    |some _,false=>some f
    |_,_=>none
   |none=>none
    else none
  |none=>none
 |none=>none
def fW(P:Program)(f:FuncId):Bool:=
 match P.funcs[f]? with
 |some fn=>fn.body.isSome&& !(fn.name== "runtime.NumGoroutine")
 |none=>false
def re:Mode->Bool
 | .P=>true
 |_=>false
def J5:Mode->Bool
 | .P=>true
 | .N=>true
 |_=>false
def ya:Op->Bool
 | .call {callee:=.value (.func _),..}=>false
 | .call {callee:=.builtin _,..}=>false
 | .call _=>true
 |_=>false
def cI(cf:dS)(tm:Nat->af)(h:aC)(c:Call):Option HI:=
 match cp (ev cf.G tm) c.args.toList with
 |none=>none
 |some args=>match c.callee with
  | .value fo=>match ev cf.G tm fo with
   |some (.func (.func f) first cap)=>if fW cf.P f then some (.call f (first++args++cap))else none
   |_=>none
  | .invoke ro name=>match ev cf.G tm ro with
   |some (.iface t v)=>match NF cf.P t name with
    |some f=>if fW cf.P f then some (.call f (v::args))else none
    |none=>none
   |_=>none
  | .builtin b=>match b,args with
   | .len,[x]=>match(c.argTypes[0]?).bind cf.P.underlying,tY h x with
    |some (.slice _),some n=>(match x with| .str _=>none| .map _=>none| .pN=>none| .mQ _ _=>none|_=>some (.val (.int .i64 n) h))
    |some .string,some n=>(match x with| .str _=>some (.val (.int .i64 n) h)|_=>none)
    |some (.map _ _),some n=>(match x with| .map _=>some (.val (.int .i64 n) h)| .pN=>some (.val (.int .i64 n) h)| .mQ _ _=>some (.val (.int .i64 n) h)|_=>none)
    |_,_=>none
   | .append,[s,x]=>match c.argTypes[0]?,(c.argTypes[1]?).bind cf.P.underlying with
    |some t,some d=>(match d with
     | .slice _=>(hY cf.P t s x h).map fun r=>.val r.1 r.2
     | .string=>(hY cf.P t s x h).map fun r=>.val r.1 r.2
     |_=>none)
    |_,_=>none
   | .min,[.int k x,.int _ y]=>some (.val (.int k (if y<x then y else x)) h)
   | .max,[.int k x,.int _ y]=>some (.val (.int k (if y>x then y else x)) h)
   |_,_=>none
def t9(G:Nat->Option af)(tm:Nat->af):Option Operand->Option (Option Int)
 |none=>some none
 |some o=>((ev G tm o).bind NC).map some
def aT(cf:dS)(tm:Nat->af)(h:aC)(o:Op):Option HI:=
 let e:=ev cf.G tm
 match o with
 | .move x=>(e x).map (.val · h)
 | .assign x=>(e x).map (.val · h)
 | .pick c a b=>match e c,e a,e b with
  |some (.bool t),some x,some y=>some (.val (VN t x y) h)
  |_,_,_=>none
 | .alloc t=>(jo cf.P t).map fun z=>.val (Ef h z).1 (Ef h z).2
 | .box _ x=>(e x).map fun z=>.val (Ef h z).1 (Ef h z).2
 | .build t ps=>match jo cf.P t,cp (fun p=>(e p.2).map fun v=>(p.1,v)) ps.toList with
  |some z,some vs=>if yk cf.P t then match jU (yL cf.P t) z.cells vs with
   |some cs=>some (.val (.agg cs) h)
   |none=>none
    else none
  |_,_=>none
 | .buildSlice t n ps=>match kT cf.P t,cp (fun p=>(e p.2).map fun v=>(p.1,v)) ps.toList with
  |some (et,sz),some vs=>
   if n<=4096/\sz<=4096 then match jo cf.P et with
    |some z=>if z.cells.length=sz then match jr (List.replicate n z) sz vs with
     |some es=>some (.val (lD h sz n es).1 (lD h sz n es).2)
     |none=>none
      else none
    |none=>none
   else none
  |_,_=>none
 | .load t a=>match e a with
  |some a=>(jq cf.P t a h).map (.val · h)
  |none=>none
 | .store t a x=>match e a,e x with
  |some a,some v=>(q8 cf.P t a v h).map (.val (.dX []) ·)
  |_,_=>none
 | .nilCheck x=>match e x with
  |some v=>if SA v then some (.val v h)else none
  |none=>none
 | .binOp op t x y _=>match e x,e y with
  |some a,some b=>(yJ cf.P op t x y a b).map (.val · h)
  |_,_=>none
 | .unOp op _ x=>match e x with
  |some a=>(Yo op a).map (.val · h)
  |none=>none
 | .convert s d x=>match e x with
  |some a=>(NB cf.P s d a h).map (.val · h)
  |none=>none
 | .makeInterface t x=>match e x,cf.P.underlying t with
  |some a,some d=>(match d with
   | .interface _=>none
   |_=>some (.val (.iface t a) h))
  |_,_=>none
 | .makeFunc fn a b=>match cp e a.toList,cp e b.toList with
  |some a,some b=>some (.val (.func fn a b) h)
  |_,_=>none
 | .makeMap _ none=>some (.val (.map h.length) (h++[.oX [] []]))
 | .makeSlice t l c=>match e l,e c with
  |some l,some c=>(Ei cf.P t l c h).map fun r=>.val r.1 r.2
  |_,_=>none
 | .slice t x lo hi mx=>match e x,t9 cf.G tm lo,t9 cf.G tm hi,mx with
  |some x,some lo,some hi,none=>(lZ cf.P t x lo hi none h).map (.val · h)
  |_,_,_,_=>none
 | .fieldAddr s x f=>match e x,TC cf.P s f with
  |some (.ptr id i off),some k=>some (.val (.ptr id i (off+k)) h)
  |some (.eY xs i off),some k=>some (.val (.eY xs i (off+k)) h)
  |_,_=>none
 | .field t x f=>match e x with
  |some x=>(HJ cf.P t x f).map (.val · h)
  |none=>none
 | .indexAddr t x i=>match e x,e i with
  |some x,some (.int _ i)=>(tZ cf.P t x i h).map (.val · h)
  |_,_=>none
 | .index t x i=>match e x,e i with
  |some x,some (.int _ i)=>(yK cf.P t x i).map (.val · h)
  |_,_=>none
 | .lookup t m k ok=>match e m,e k with
  |some m,some k=>(wZ cf.P t m k ok h).map (.val · h)
  |_,_=>none
 | .mapUpdate t m k x=>match e m,e k,e x with
  |some m,some k,some v=>(CD cf.P t m k v h).map (.val (.dX []) ·)
  |_,_,_=>none
 | .insert t m k x=>match e m,e k,e x with
  |some m,some k,some v=>(CD cf.P t m k v h).map (.val (.dX []) ·)
  |_,_,_=>none
 | .extract t i=>match e t with
  |some v=>(yM v i).map (.val · h)
  |none=>none
 | .call c=>cI cf tm h c
 | .panic x=>match e x with
  |some (.iface t v)=>some (.iK (.iface t v))
  |_=>none
 |_=>none
def J6{α:Type}(t:Bool)(x y:α):α:=match t with
 |true=>x
 |false=>y
def Ej{α:Type}(t:Bool)(x y:α):α:=match t with
 |true=>x
 |false=>y
def jD:Op->Bool
 | .move _=>true
 | .assign _=>true
 | .pick _ _ _=>true
 | .load _ _=>true
 | .binOp _ _ _ _ _=>true
 | .unOp _ _ _=>true
 | .fieldAddr _ _ _=>true
 | .field _ _ _=>true
 | .indexAddr _ _ _=>true
 | .index _ _ _=>true
 | .extract _ _=>true
 | .lookup _ _ _ _=>true
 | .convert _ _ _=>true
 | .call {callee:=.builtin .len,..}=>true
 |_=>false
def fg(p:Nat->Bool):Nat->aC->aC
 |_,[]=>[]
 |i,o::t=>(bif p i then .dead else o)::fg p (i+1) t
theorem f0(p:Nat->Bool): ∀(h:aC)(k:Nat),(fg p k h).length=h.length
 | [],_=>rfl
 |_::t,k=>congrArg (· +1) (f0 p t (k+1))
theorem sc(p:Nat->Bool): ∀(h:aC)(k i:Nat),(fg p k h)[i]?=(h[i]?).map fun o=>bif p (k+i)then .dead else o
 | [],_,_=>rfl
 |o::t,k,0=>rfl
 |o::t,k,i+1=>by
  have:=sc p t (k+1) i;rw[show k+1+i=k+(i+1) by omega]at this;simpa[fg]using this
def af.f8:af->Bool
 | .own _ _ _=>true
 | .nil=>true
 | .sl []=>true
 |v=>v.isScalar
def af.clean:af->Bool
 | .agg cs=>cs.all af.f8
 | .dX cs=>cs.all fun c=>match c with
  | .agg ds=>ds.all af.f8
  |c=>c.f8
 |v=>v.f8
def l6(n:Nat):af->af
 | .own id st len=>.own (id+n) st len
 |v=>v
def hZ(n:Nat):af->af
 | .agg cs=>.agg (cs.map (l6 n))
 |v=>l6 n v
def pQ(n:Nat):af->af
 | .dX cs=>.dX (cs.map (hZ n))
 |v=>hZ n v
def cJ.keeps:cJ->Bool
 | .arr _ es=>es.all fun c=>match c with
  | .agg ds=>ds.all af.f8
  |c=>c.f8
 |_=>false
def cJ.keep(n:Nat)(o:cJ):cJ:=match o.keeps,o with
 |true,.arr sz es=>.arr sz (es.map (hZ n))
 |_,_=>.dead
def af.NG:af->Bool
 | .own _ _ _=>false
 | .ptr _ _ _=>false
 | .map _=>false
 | .it _=>false
 | .func _ _ _=>false
 | .iface _ _=>false
 | .agg _=>false
 | .dX _=>false
 |_=>true
def af.NH:af->Bool
 | .agg cs=>cs.all af.NG
 |v=>v.NG
def af.J7(h:aC):af->Bool
 | .own id _ _=>match h[id]? with
  |some (.arr _ _)=>true
  |some .dead=>true
  |_=>false
 |v=>v.NG
def af.TE(h:aC):af->Bool
 | .agg cs=>cs.all (af.J7 h)
 |v=>v.J7 h
def cJ.pR:cJ->Bool
 | .arr _ es=>es.all af.NH
 |_=>true
def cJ.freeze:cJ->cJ
 | .arr _ _=>.dead
 |o=>o
def jg(h:aC):Nat->af->List Nat
 |0,_=>[]
 |n+1,.own id _ _=>match h[id]? with
  |some (.arr _ es)=>id::es.flatMap (jg h n)
  |_=>[]
 |n+1,.agg cs=>cs.flatMap (jg h n)
 |n+1,.dX cs=>cs.flatMap (jg h n)
 |_+1,_=>[]
def eO(h:aC)(args:List af)(i:Nat):Bool:=(args.flatMap (jg h 4194304)).contains i
def J8(h1:aC)(p:Nat->Bool):af->af
 | .own id st n=>match p id with
  |true=>(match snap h1 (.own id st n)with
   |some x=>x
   |none=>.own id st n)
  |false=>.own id st n
 |c=>c
def w8(h1:aC)(p:Nat->Bool):cJ->cJ
 | .box (.agg cs)=>.box (.agg (cs.map (J8 h1 p)))
 |o=>o
def J9(j:Bool)(h1:aC)(p:Nat->Bool)(h:aC):aC:=match j with
 |true=>h.map (w8 h1 p)
 |false=>h
def oY(j:Bool)(C:pP)(f:FuncId)(args:List af)(h:aC):Option dz:=
 match cj (fg (fun i=>!eO h args i) 0 h) args with
 |some as=>match C f as []with
  |some (.ret v h1)=>(snap h1 v).map (.ret · (J9 j (fg (fun i=>!eO h args i) 0 h) (eO h args) (fg (eO h args) 0 h)))
  |_=>none
 |none=>none
def bN(cf:dS)(C:pP)(f:FuncId)(args:List af)(h:aC):Option dz:=
 match cf.M f with
 | .F=>C f args h
 | .P=>match cj [] args with
  |some as=>match C f as []with
   |some (.ret v h1)=>(snap h1 v).map (.ret · h)
   |some (.iK v h1)=>(snap h1 v).map (.iK · h)
   |none=>none
  |none=>match cj h args with
   |some as=>match C f as []with
    |some (.ret v _)=>if v.QK then some (.ret v h)else none
    |_=>none
   |none=>none
 | .N=>match cj h args with
  |some as=>match C f as []with
   |some (.ret v h1)=>if v.clean then some (.ret (pQ h.length v) (h++h1.map (cJ.keep h.length)))else none
   |_=>none
  |none=>none
 | .K=>match cj [] args with
  |some as=>match C f as []with
   |some (.ret v h1)=>(snap h1 v).map (.ret · h)
   |_=>none
  |none=>match args.all (af.TE h)&&h.all cJ.pR with
   |true=>match cj h args with
    |some as=>match C f as []with
     |some (.ret v h1)=>(snap h1 v).map (.ret · (h.map cJ.freeze))
     |_=>none
    |none=>none
   |false=>none
 | .R=>match C f args h with
  |some (.ret v h1)=>match Nat.ble h.length h1.length with
   |true=>(snap (fg (fun i=>Nat.blt i h.length) 0 h1) v).map (.ret · (fg (Nat.ble h.length) 0 h1))
   |false=>none
  |_=>none
 | .V=>match cj [] args with
  |some as=>match C f as []with
   |some (.ret v h1)=>(snap h1 v).map (.ret · h)
   |_=>none
  |none=>oY false C f args h
 | .X=>match cj [] args with
  |some as=>match C f as []with
   |some (.ret v h1)=>(snap h1 v).map (.ret · h)
   |_=>none
  |none=>oY true C f args h
def dP(ops:Array Oper)(o:Oper)(tm:Nat->af):Option Bool:=
 match o.guard with
 |none=>none
 |some (j,yb)=>match(ops[j]?).bind (·.dst)with
  |some d=>(match tm d with
   | .bool b=>some (b==yb)
   |_=>some false)
  |none=>some false
def eJ(cf:dS)(C:pP)(d:Bool)(o:Oper)(st:St)(K:St->Option Out):Option Out:=
 match aT cf st.tm st.hp o.op with
 |some (.val v h)=>K ⟨iN st.tm o.dst v,h⟩
 |some (.call f args)=>match d&&(ya o.op&& !re (cf.M f))with
  |true=>none
  |false=>match bN cf C f args st.hp with
   |some (.ret v h)=>K ⟨iN st.tm o.dst v,h⟩
   |some (.iK v h)=>some (.iK v h)
   |none=>none
 |some (.iK v)=>some (.iK v st.hp)
 |none=>none
def vI(M:FuncId->Mode):Op->Bool
 | .store _ _ _=>true
 | .mapUpdate _ _ _ _=>true
 | .insert _ _ _ _=>true
 | .call {callee:=.builtin .append,..}=>true
 | .call {callee:=.value (.func f),..}=>match M f with
  | .P=>false
  | .N=>false
  |_=>true
 |_=>false
def fx(x:Oper):Bool:=match x.op,x.guard with
 | .load _ _,none=>true
 | .slice _ _ _ _ none,none=>true
 | .indexAddr _ _ _,none=>true
 |_,_=>false
def kW(x:Oper):Bool:=match x.op,x.guard with
 | .alloc _,none=>true
 | .box _ _,none=>true
 | .buildSlice _ (_+1) _,none=>true
 |_,_=>false
def i5(x:Oper):Bool:=fx x||kW x
def CE(acc:List Nat):List Edge->Nat->Nat
 | [],m=>m
 |e::es,m=>CE acc es (if Region.binds .any e then(m ||| 2^e.on) |||(acc[e.on]?).getD 0 else m)
def lI:List Oper->List Nat->List Nat
 | [],acc=>acc
 |o::r,acc=>lI r (acc++[CE acc o.after.toList 0])
def NI(cf:dS)(x:Oper)(st:St)(d:Nat):Prop:=match aT cf st.tm [] x.op with
 |some (.val (.ptr _ _ _) [ob])=>∃k,st.tm d= .ptr k 0 0/\st.hp[k]?=some ob
 |some (.val (.own _ _ n) [ob])=>∃k,st.tm d= .own k 0 n/\st.hp[k]?=some ob
 |_=>False
def CF(cf:dS)(x:Oper)(st:St):Prop:=match x.dst with
 |some d=>match kW x with
  |true=>NI cf x st d
  |false=>aT cf st.tm st.hp x.op=some (.val (st.tm d) st.hp)
 |none=>True
def md(cf:dS)(st:St)(m:Nat):List Oper->Nat->Prop
 | [],_=>True
 |x::xs,i=>match i5 x&& !m.testBit i with
  |false=>md cf st m xs (i+1)
  |true=>CF cf x st/\md cf st m xs (i+1)
noncomputable def Bu(p:Prop)(r:Option Out):Option Out:=@ite _ p (Classical.propDecidable p) r none
def l7(m:Nat):List Oper->Nat->Bool
 | [],_=>false
 |x::xs,i=>match i5 x&& !m.testBit i with
  |true=>true
  |false=>l7 m xs (i+1)
theorem sS{cf:dS}{st:St}{m:Nat}: ∀(l:List Oper)(i:Nat),l7 m l i=false->md cf st m l i
 | [],_,_=>trivial
 |x::xs,i,h=>by
  unfold l7 at h;unfold md;split at h
  ·cases h
  ·rename_i hc;simp only[hc];exact sS xs (i+1) h
noncomputable def kX(cf:dS)(d:Bool)(ops:Array Oper)(o:Oper)(n:Nat)(K:St->Option Out)(st:St):Option Out:=match d&&vI cf.M o.op with
 |false=>K st
 |true=>match l7 (((lI ops.toList [])[ops.size-n-1]?).getD 0) (ops.toList.take (ops.size-n-1)) 0 with
  |false=>K st
  |true=>Bu (md cf st (((lI ops.toList [])[ops.size-n-1]?).getD 0) (ops.toList.take (ops.size-n-1)) 0) (K st)
theorem pS{cf:dS}{d:Bool}{ops:Array Oper}{o:Oper}{n:Nat}{K K':St->Option Out}(hK: ∀st r,K st=some r->K' st=some r)(st:St)(r:Out)(h:kX cf d ops o n K st=some r):kX cf d ops o n K' st=some r:=by
 unfold kX at h⊢;split
 ·rename_i hc;simp only[hc]at h;exact hK _ _ h
 ·rename_i hc;simp only[hc]at h;split
  ·rename_i hq;simp only[hq]at h;exact hK _ _ h
  ·rename_i hq;simp only[hq]at h;unfold Bu at h⊢;split at h
   ·rename_i hp;rw[if_pos hp];exact hK _ _ h
   ·cases h
theorem Bv{cf:dS}{d:Bool}{ops:Array Oper}{o:Oper}{n:Nat}{K:St->Option Out}{K':Nat->St->Option Out}(hK: ∀st r,K st=some r-> ∃n,K' n st=some r)(st:St)(r:Out)(h:kX cf d ops o n K st=some r): ∃m,kX cf d ops o n (K' m) st=some r:=by
 unfold kX at h⊢;split
 ·rename_i hc;simp only[hc]at h;exact hK _ _ h
 ·rename_i hc;simp only[hc]at h;split
  ·rename_i hq;simp only[hq]at h;exact hK _ _ h
  ·rename_i hq;simp only[hq]at h;unfold Bu at h⊢;split at h
   ·rename_i hp;obtain⟨m,hm⟩:=hK _ _ h;exact⟨m,by rw[if_pos hp];exact hm⟩
   ·cases h
theorem kn{cf:dS}{d:Bool}{ops:Array Oper}{o:Oper}{n:Nat}{K:St->Option Out}{st:St}{r:Out}(h:kX cf d ops o n K st=some r):
  K st=some r/\((d&&vI cf.M o.op)=true->md cf st (((lI ops.toList [])[ops.size-n-1]?).getD 0) (ops.toList.take (ops.size-n-1)) 0):=by
   unfold kX at h;split at h
   ·rename_i hc;exact⟨h,fun h'=>by rw[hc]at h';cases h'⟩
   ·split at h
    ·rename_i hq;exact⟨h,fun _=>sS _ _ hq⟩
    ·unfold Bu at h;split at h
     ·rename_i hp;exact⟨h,fun _=>hp⟩
     ·cases h
noncomputable def jh(cf:dS)(C:pP)(d:Bool)(ops:Array Oper):List Oper->St->Option Out
 | [],st=>some (.norm st)
 |o::rest,st=>
  match dP ops o st.tm with
  |none=>eJ cf C d o st (kX cf d ops o rest.length (jh cf C d ops rest))
  |some t=>
   if jD o.op then match Ej t (aT cf st.tm st.hp o.op) (some (.val (.dX []) st.hp))with
    |some (.val v h)=>jh cf C d ops rest ⟨iN st.tm o.dst v,h⟩
    |_=>none
   else J6 t (eJ cf C d o st (kX cf d ops o rest.length (jh cf C d ops rest))) (jh cf C d ops rest ⟨iN st.tm o.dst (.dX []),st.hp⟩)
def Ek(d:Bool)(r:Option Out):Option Out:=match d,r with
 |true,some (.norm st)=>some (.norm st)
 |true,_=>none
 |false,r=>r
theorem HK{d:Bool}{x y:Option Out}(h: ∀r,x=some r->y=some r){r:Out}(hx:Ek d x=some r):Ek d y=some r:=by
 cases d with
 |false=>exact h r hx
 |true=>
  cases x with
  |none=>cases hx
  |some q=>cases q<;>first|(rw[h _ rfl];exact hx)|cases hx
theorem pT{d:Bool}{x:Option Out}{r:Out}(hx:Ek d x=some r):x=some r/\(d=true-> ∃st,r= .norm st):=by
 cases d with
 |false=>exact⟨hx,fun h=>by cases h⟩
 |true=>
  cases x with
  |none=>cases hx
  |some q=>cases q<;>first|(cases hx;done)|(simp only[Ek]at hx;cases hx;exact⟨rfl,fun _=>⟨_,rfl⟩⟩)
noncomputable def bW(cf:dS)(C:pP)(L:Ng):Code->St->Option Out
 | .skip,st=>some (.norm st)
 | .region id ops d,st=>Ek d (jh cf C d (J4 cf.pm id ops d) (J4 cf.pm id ops d).toList st)
 | .seq a b,st=>match bW cf C L a st with
  |some (.norm d8)=>bW cf C L b d8
  |r=>r
 | .cond c a b,st=>match ev cf.G st.tm c with
  |some (.bool t)=>J6 t (bW cf C L a st) (bW cf C L b st)
  |_=>none
 | .block id c,st=>match bW cf C L c st with
  |some (.exit j d8)=>if j=id then some (.norm d8)else some (.exit j d8)
  |r=>r
 | .loop c,st=>L c st
 | .exit id,st=>some (.exit id st)
 | .scope c,st=>bW cf C L c st
 | .label _,st=>some (.norm st)
 | .ret,st=>some (.ret st)
 |_,_=>none
def i6(P:Program)(st:St):ResultVar->Option af
 | .tmp t=>some (st.tm t)
 | .cell a t=>jq P t (st.tm a) st.hp
def CG:List af->af
 | [v]=>v
 |vs=>.dX vs
def oZ(P:Program)(fn:Func):Option Out->Option dz
 |some (.norm st)=>(cp (i6 P st) fn.results.toList).map fun vs=>.ret (CG vs) st.hp
 |some (.ret st)=>(cp (i6 P st) fn.results.toList).map fun vs=>.ret (CG vs) st.hp
 |some (.iK v h)=>some (.iK v h)
 |_=>none
def ko(args:List af):Nat->af:=fun k=>(args[k]?).getD (.dX [])
noncomputable def me(cf:dS)(C:pP)(L:Ng)(f:FuncId)(args:List af)(h:aC):Option dz:=
 match cf.pr f with
 |some p=>p args h
 |none=>match cf.P.funcs[f]? with
  |some fn=>match fn.body with
   |some c=>oZ cf.P fn (bW cf C L c ⟨ko args,h⟩)
   |none=>none
  |none=>none
noncomputable def gG(cf:dS)(C:pP)(L:Ng)(c:Code)(st:St):Option Out:=
 match bW cf C L c st with
 |some (.norm d8)=>L c d8
 |r=>r
noncomputable def mH(cf:dS):Nat->pP×Ng
 |0=>(fun _ _ _=>none,fun _ _=>none)
 |n+1=>(me cf (mH cf n).1 (mH cf n).2,gG cf (mH cf n).1 (mH cf n).2)
open Classical in
noncomputable def Lq{α:Type}(f:Nat->Option α):Option α:=if h: ∃a n,f n=some a then some h.choose else none
noncomputable def call(cf:dS):pP:=fun f args h=>Lq fun n=>(mH cf n).1 f args h
noncomputable def gY(cf:dS):Ng:=fun c st=>Lq fun n=>(mH cf n).2 c st
theorem fh{α:Type}{f:Nat->Option α}{a:α}(h:Lq f=some a): ∃n,f n=some a:=by
 unfold Lq at h;split at h
 ·rename_i hx;obtain⟨n,hn⟩:=hx.choose_spec;exact⟨n,by rw[hn];exact h⟩
 ·cases h
def NJ{α:Type}(f:Nat->Option α):Prop:=∀n a,f n=some a->f (n+1)=some a
theorem NJ.le{α:Type}{f:Nat->Option α}(hm:NJ f){n m:Nat}(h:n<=m){a:α}(ha:f n=some a):f m=some a:=by
 induction h with
 |refl=>exact ha
 |step _ ih=>exact hm _ _ ih
theorem NK{α:Type}{f:Nat->Option α}(hm:NJ f){n:Nat}{a:α}(h:f n=some a):Lq f=some a:=by
 unfold Lq;have hx: ∃a n,f n=some a:=⟨a,n,h⟩;rw[dif_pos hx];obtain⟨m,hb⟩:=hx.choose_spec;have h1:=hm.le (Nat.le_max_left n m) h;have h2:=hm.le (Nat.le_max_right n m) hb;rw[h1]at h2;injection h2 with h2;rw[<-h2]
theorem Ka{α:Type}{x y:Option α}(h: ∀a,x=some a↔y=some a):x=y:=by
 cases x with
 |none=>cases y with
  |none=>rfl
  |some b=>have:=(h b).2 rfl;cases this
 |some a=>exact((h a).1 rfl).symm
theorem jV{α β:Type}{f g:α->Option β}(hfg: ∀x b,f x=some b->g x=some b): ∀(l:List α)(r:List β),cp f l=some r->cp g l=some r:=by
 intro l
 induction l with
 |nil=>intro r h;exact h
 |cons x xs ih=>
  intro r h;simp only[cp]at h⊢
  cases hx:f x with
  |none=>simp[hx]at h
  |some y=>
   cases yl:cp f xs with
   |none=>simp[hx,yl]at h
   |some ys=>
    simp only[hx,yl]at h;simp only[hfg _ _ hx,ih _ yl];exact h
theorem HL(h:aC): ∀(n:Nat)(v a:af),bS h n v=some a->bS h (n+1) v=some a:=by
 intro n
 induction n with
 |zero=>intro v a hh;simp[bS]at hh
 |succ n ih=>
  intro v a hh;cases v
  case own id st len=>
   rw[bS]at hh⊢
   cases ho:h[id]? with
   |none=>simp[ho]at hh
   |some o=>
    cases o with
    |arr sz es=>
     simp only[ho]at hh⊢;split at hh
     ·rename_i hc;rw[if_pos hc];simp only[ai]at hh⊢;obtain⟨xs,yl,hx⟩:=hh;exact⟨xs,jV (fun z b=>ih z b) _ _ yl,hx⟩
     ·cases hh
    |_=>simp[ho]at hh
  case ptr id i off=>
   rw[bS]at hh⊢
   cases ho:h[id]? with
   |none=>simp[ho]at hh
   |some o=>
    cases o with
    |arr sz es=>
     simp only[ho,ai]at hh⊢;obtain⟨xs,yl,hx⟩:=hh
     exact⟨xs,jV (fun z b=>ih z b) _ _ yl,hx⟩
    |box x=>
     simp only[ho]at hh⊢;split at hh
     ·rename_i hi;rw[if_pos hi];simp only[ai]at hh⊢;obtain⟨y,hy,hx⟩:=hh;exact⟨y,ih _ _ hy,hx⟩
     ·cases hh
    |_=>simp[ho]at hh
  case map id=>
   rw[bS]at hh⊢
   cases ho:h[id]? with
   |none=>simp[ho]at hh
   |some o=>
    cases o with
    |oX ks vs=>
     simp only[ho]at hh⊢
     cases h1:cp (bS h n) ks with
     |none=>simp[h1]at hh
     |some xs=>
      cases h2:cp (bS h n) vs with
      |none=>simp[h1,h2]at hh
      |some ys=>
       simp only[h1,h2]at hh;simp only[jV (fun z b=>ih z b) _ _ h1,jV (fun z b=>ih z b) _ _ h2]
       exact hh
    |_=>simp[ho]at hh
  case agg cs=>
   rw[bS]at hh⊢;simp only[ai]at hh⊢;obtain⟨xs,yl,hx⟩:=hh;exact⟨xs,jV (fun z b=>ih z b) _ _ yl,hx⟩
  case dX cs=>
   rw[bS]at hh⊢;simp only[ai]at hh⊢;obtain⟨xs,yl,hx⟩:=hh;exact⟨xs,jV (fun z b=>ih z b) _ _ yl,hx⟩
  case func fn x y=>
   rw[bS]at hh⊢
   cases h1:cp (bS h n) x with
   |none=>simp[h1]at hh
   |some xs=>
    cases h2:cp (bS h n) y with
    |none=>simp[h1,h2]at hh
    |some ys=>
     simp only[h1,h2]at hh;simp only[jV (fun z b=>ih z b) _ _ h1,jV (fun z b=>ih z b) _ _ h2];exact hh
  case iface t w=>
   rw[bS]at hh⊢;simp only[ai]at hh⊢;obtain⟨x,hx,hxx⟩:=hh;exact⟨x,ih _ _ hx,hxx⟩
  all_goals exact hh
theorem yN{C C':pP}{j:Bool}(hC: ∀f a h r,C f a h=some r->C' f a h=some r)(f:FuncId)(a:List af)(h:aC)(r:dz)(hh:oY j C f a h=some r):oY j C' f a h=some r:=by
 unfold oY at hh⊢;split at hh
 ·rename_i as hs
  cases hc:C f as []with
  |none=>simp[hc]at hh
  |some q=>simp only[hc]at hh;simp only[hs,hC _ _ _ _ hc];exact hh
 ·cases hh
theorem yO{cf:dS}{C C':pP}(hC: ∀f a h r,C f a h=some r->C' f a h=some r)(f:FuncId)(a:List af)(h:aC)(r:dz)
  (hh:bN cf C f a h=some r):bN cf C' f a h=some r:=by
   unfold bN at hh⊢
   cases hm:cf.M f with
   |F=>simp only[hm]at hh⊢;exact hC _ _ _ _ hh
   |P=>
    simp only[hm]at hh⊢
    cases hs:cj [] a with
    |some as=>
     simp only[hs]at hh⊢
     cases hc:C f as []with
     |none=>simp[hc]at hh
     |some q=>simp only[hc]at hh;simp only[hC _ _ _ _ hc];exact hh
    |none=>
     simp only[hs]at hh⊢
     cases oH:cj h a with
     |none=>simp[oH]at hh
     |some as=>
      simp only[oH]at hh⊢
      cases hc:C f as []with
      |none=>simp[hc]at hh
      |some q=>simp only[hc]at hh;simp only[hC _ _ _ _ hc];exact hh
   |N=>
    simp only[hm]at hh⊢
    cases oH:cj h a with
    |none=>simp[oH]at hh
    |some as=>
     simp only[oH]at hh⊢
     cases hc:C f as []with
     |none=>simp[hc]at hh
     |some q=>simp only[hc]at hh;simp only[hC _ _ _ _ hc];exact hh
   |K=>
    simp only[hm]at hh⊢
    cases hs:cj [] a with
    |some as=>
     simp only[hs]at hh⊢
     cases hc:C f as []with
     |none=>simp[hc]at hh
     |some q=>simp only[hc]at hh;simp only[hC _ _ _ _ hc];exact hh
    |none=>
     simp only[hs]at hh⊢;split at hh
     ·cases oH:cj h a with
      |none=>simp[oH]at hh
      |some as=>
       simp only[oH]at hh⊢
       cases hc:C f as []with
       |none=>simp[hc]at hh
       |some q=>simp only[hc]at hh;simp only[hC _ _ _ _ hc];exact hh
     ·cases hh
   |R=>
    simp only[hm]at hh⊢
    cases hc:C f a h with
    |none=>simp[hc]at hh
    |some q=>simp only[hc]at hh;simp only[hC _ _ _ _ hc];exact hh
   |V=>
    simp only[hm]at hh⊢
    cases hs:cj [] a with
    |some as=>
     simp only[hs]at hh⊢
     cases hc:C f as []with
     |none=>simp[hc]at hh
     |some q=>simp only[hc]at hh;simp only[hC _ _ _ _ hc];exact hh
    |none=>simp only[hs]at hh⊢;exact yN hC f a h r hh
   |X=>
    simp only[hm]at hh⊢
    cases hs:cj [] a with
    |some as=>
     simp only[hs]at hh⊢
     cases hc:C f as []with
     |none=>simp[hc]at hh
     |some q=>simp only[hc]at hh;simp only[hC _ _ _ _ hc];exact hh
    |none=>simp only[hs]at hh⊢;exact yN hC f a h r hh
theorem yP{cf:dS}{C C':pP}(hC: ∀f a h r,C f a h=some r->C' f a h=some r){K K':St->Option Out}(hK: ∀st r,K st=some r->K' st=some r)
  (d:Bool) (o:Oper) (st:St) (r:Out) (h:eJ cf C d o st K=some r):eJ cf C' d o st K'=some r:=by
   unfold eJ at h⊢
   cases ho:aT cf st.tm st.hp o.op with
   |none=>simp[ho]at h
   |some q=>
    cases q with
    |val v h1=>simp only[ho]at h⊢;exact hK _ _ h
    |iK v=>simp only[ho]at h⊢;exact h
    |call f args=>
     simp only[ho]at h⊢;generalize(d&&(ya o.op&& !re (cf.M f)))=g at h⊢
     cases g with
     |true=>exact h
     |false=>
     simp only at h⊢
     cases hc:bN cf C f args st.hp with
     |none=>simp[hc]at h
     |some q=>
      simp only[hc]at h;simp only[yO hC _ _ _ _ hc]
      cases q with
      |ret v h1=>exact hK _ _ h
      |iK v h1=>exact h
theorem Bw{cf:dS}{C C':pP}(hC: ∀f a h r,C f a h=some r->C' f a h=some r)(d:Bool)(ops:Array Oper): ∀(l:List Oper)(st:St)(r:Out),jh cf C d ops l st=some r->jh cf C' d ops l st=some r:=by
 intro l
 induction l with
 |nil=>intro st r h;exact h
 |cons o rest ih=>
  intro st r h;simp only[jh]at h⊢;generalize dP ops o st.tm=g at h⊢
  cases g with
  |none=>exact yP hC (pS ih) d _ _ _ h
  |some t=>
   simp only at h⊢;split at h
   ·rename_i hp;rw[if_pos hp];generalize Ej t (aT cf st.tm st.hp o.op) _=q at h⊢
    cases q with
    |none=>exact h
    |some q=>cases q with
     |val v h1=>exact ih _ _ h
     |call f a=>exact h
     |iK v=>exact h
   ·rename_i hp;rw[if_neg hp]
    cases t with
    |false=>exact ih _ _ h
    |true=>exact yP hC (pS ih) d _ _ _ h
theorem mR{cf:dS}{C C':pP}{L L':Ng}(hC: ∀f a h r,C f a h=some r->C' f a h=some r)(hL: ∀c st r,L c st=some r->L' c st=some r):
  ∀(c:Code)(st:St)(r:Out),bW cf C L c st=some r->bW cf C' L' c st=some r:=by
   intro c
   induction c with
   |region id ops d=>intro st r h;simp only[bW]at h⊢;exact HK (Bw hC _ _ _ _) h
   |seq a b rf rh=>
    intro st r h;simp only[bW]at h⊢
    cases ha:bW cf C L a st with
    |none=>simp[ha]at h
    |some q=>
     simp only[ha]at h;simp only[rf _ _ ha]
     cases q with
     |norm d8=>exact rh _ _ h
     |_=>exact h
   |cond c a b rf rh=>
    intro st r h;simp only[bW]at h⊢;generalize ev cf.G st.tm c=e at h⊢
    match e,h with
    |some (.bool true),h=>exact rf _ _ h
    |some (.bool false),h=>exact rh _ _ h
   |block id c ih=>
    intro st r h;simp only[bW]at h⊢
    cases ha:bW cf C L c st with
    |none=>simp[ha]at h
    |some q=>simp only[ha]at h;simp only[ih _ _ ha];exact h
   |loop c ih=>intro st r h;simp only[bW]at h⊢;exact hL _ _ _ h
   |scope c ih=>intro st r h;simp only[bW]at h⊢;exact ih _ _ h
   |skip=>intro st r h;simpa only[bW]using h
   |exit id=>intro st r h;simpa only[bW]using h
   |label id=>intro st r h;simpa only[bW]using h
   |ret=>intro st r h;simpa only[bW]using h
   |rangeFunc f p a b _ _=>intro st r h;simp[bW]at h
   |goto l=>intro st r h;simp[bW]at h
   |refuse w=>intro st r h;simp[bW]at h
theorem yQ{cf:dS}{C C':pP}{L L':Ng}(hC: ∀f a h r,C f a h=some r->C' f a h=some r)(hL: ∀c st r,L c st=some r->L' c st=some r)
  (f:FuncId) (args:List af) (h:aC) (r:dz) (hh:me cf C L f args h=some r):me cf C' L' f args h=some r:=by
   unfold me at hh⊢
   cases hp:cf.pr f with
   |some p=>simp only[hp]at hh⊢;exact hh
   |none=>
    simp only[hp]at hh⊢
    cases hf:cf.P.funcs[f]? with
    |none=>simp[hf]at hh
    |some fn=>
     simp only[hf]at hh⊢
     cases hb:fn.body with
     |none=>simp[hb]at hh
     |some c=>
      simp only[hb]at hh⊢
      cases he:bW cf C L c ⟨ko args,h⟩with
      |none=>simp[he,oZ]at hh
      |some q=>rw[he]at hh;rw[mR hC hL _ _ _ he];exact hh
theorem w9{cf:dS}{C C':pP}{L L':Ng}(hC: ∀f a h r,C f a h=some r->C' f a h=some r)(hL: ∀c st r,L c st=some r->L' c st=some r)
  (c:Code) (st:St) (r:Out) (hh:gG cf C L c st=some r):gG cf C' L' c st=some r:=by
   unfold gG at hh⊢
   cases he:bW cf C L c st with
   |none=>simp[he]at hh
   |some q=>
    rw[he]at hh;rw[mR hC hL _ _ _ he]
    cases q with
    |norm d8=>exact hL _ _ _ hh
    |_=>exact hh
theorem ua(cf:dS): ∀n,(∀f a h r,(mH cf n).1 f a h=some r->(mH cf (n+1)).1 f a h=some r)/\ ∀c st r,(mH cf n).2 c st=some r->(mH cf (n+1)).2 c st=some r:=by
 intro n
 induction n with
 |zero=>exact⟨fun f a h r hh=>by simp[mH]at hh,fun c st r hh=>by simp[mH]at hh⟩
 |succ n ih=>exact⟨fun f a h r hh=>yQ ih.1 ih.2 f a h r hh,fun c st r hh=>w9 ih.1 ih.2 c st r hh⟩
theorem Bx(cf:dS)(f:FuncId)(a:List af)(h:aC):NJ fun n=>(mH cf n).1 f a h:=fun n r=>(ua cf n).1 f a h r
theorem yR(cf:dS)(c:Code)(st:St):NJ fun n=>(mH cf n).2 c st:=fun n r=>(ua cf n).2 c st r
theorem vJ(cf:dS){n m:Nat}(h:n<=m):(∀f a hp r,(mH cf n).1 f a hp=some r->(mH cf m).1 f a hp=some r)/\ ∀c st r,(mH cf n).2 c st=some r->(mH cf m).2 c st=some r:=
 ⟨fun f a hp r hh=>(Bx cf f a hp).le h hh,fun c st r hh=>(yR cf c st).le h hh⟩
theorem CH(cf:dS)(n:Nat)(f:FuncId)(a:List af)(h:aC)(r:dz)(hh:(mH cf n).1 f a h=some r):call cf f a h=some r:=NK (Bx cf f a h) hh
theorem yS(cf:dS)(n:Nat)(c:Code)(st:St)(r:Out)(hh:(mH cf n).2 c st=some r):gY cf c st=some r:=NK (yR cf c st) hh
theorem Bz(cf:dS){j:Bool}(f:FuncId)(a:List af)(h:aC)(r:dz)(hh:oY j (call cf) f a h=some r): ∃n,oY j (mH cf n).1 f a h=some r:=by
 unfold oY at hh;split at hh
 ·rename_i as hs
  cases hc:call cf f as []with
  |none=>simp[hc]at hh
  |some q=>
   obtain⟨n,hn⟩:=fh hc;exact⟨n,by unfold oY;simp only[hs,hn];simpa only[hc]using hh⟩
 ·cases hh
theorem Lr(cf:dS)(f:FuncId)(a:List af)(h:aC)(r:dz)(hh:bN cf (call cf) f a h=some r): ∃n,bN cf (mH cf n).1 f a h=some r:=by
 unfold bN at hh
 cases hm:cf.M f with
 |F=>
  simp only[hm]at hh;obtain⟨n,hn⟩:=fh hh
  exact⟨n,by unfold bN;simp only[hm];exact hn⟩
 |P=>
  simp only[hm]at hh
  cases hs:cj [] a with
  |some as=>
   simp only[hs]at hh
   cases hc:call cf f as []with
   |none=>simp[hc]at hh
   |some q=>
    obtain⟨n,hn⟩:=fh hc
    exact⟨n,by unfold bN;simp only[hm,hs,hn];simpa only[hc]using hh⟩
  |none=>
   simp only[hs]at hh
   cases oH:cj h a with
   |none=>simp[oH]at hh
   |some as=>
    simp only[oH]at hh
    cases hc:call cf f as []with
    |none=>simp[hc]at hh
    |some q=>
     obtain⟨n,hn⟩:=fh hc
     exact⟨n,by unfold bN;simp only[hm,hs,oH,hn];simpa only[hc]using hh⟩
 |N=>
  simp only[hm]at hh
  cases oH:cj h a with
  |none=>simp[oH]at hh
  |some as=>
   simp only[oH]at hh
   cases hc:call cf f as []with
   |none=>simp[hc]at hh
   |some q=>
    obtain⟨n,hn⟩:=fh hc
    exact⟨n,by unfold bN;simp only[hm,oH,hn];simpa only[hc]using hh⟩
 |K=>
  simp only[hm]at hh
  cases hs:cj [] a with
  |some as=>
   simp only[hs]at hh
   cases hc:call cf f as []with
   |none=>simp[hc]at hh
   |some q=>
    obtain⟨n,hn⟩:=fh hc
    exact⟨n,by unfold bN;simp only[hm,hs,hn];simpa only[hc]using hh⟩
  |none=>
   simp only[hs]at hh;split at hh
   ·rename_i hk
    cases oH:cj h a with
    |none=>simp[oH]at hh
    |some as=>
     simp only[oH]at hh
     cases hc:call cf f as []with
     |none=>simp[hc]at hh
     |some q=>
      obtain⟨n,hn⟩:=fh hc;exact⟨n,by unfold bN;simp only[hm,hs,hk,oH,hn];simpa only[hc]using hh⟩
   ·cases hh
 |R=>
  simp only[hm]at hh
  cases hc:call cf f a h with
  |none=>simp[hc]at hh
  |some q=>
   obtain⟨n,hn⟩:=fh hc
   exact⟨n,by unfold bN;simp only[hm,hn];simpa only[hc]using hh⟩
 |V=>
  simp only[hm]at hh
  cases hs:cj [] a with
  |some as=>
   simp only[hs]at hh
   cases hc:call cf f as []with
   |none=>simp[hc]at hh
   |some q=>
    obtain⟨n,hn⟩:=fh hc
    exact⟨n,by unfold bN;simp only[hm,hs,hn];simpa only[hc]using hh⟩
  |none=>
   simp only[hs]at hh;obtain⟨n,hn⟩:=Bz cf f a h r hh
   exact⟨n,by unfold bN;simp only[hm,hs];exact hn⟩
 |X=>
  simp only[hm]at hh
  cases hs:cj [] a with
  |some as=>
   simp only[hs]at hh
   cases hc:call cf f as []with
   |none=>simp[hc]at hh
   |some q=>
    obtain⟨n,hn⟩:=fh hc
    exact⟨n,by unfold bN;simp only[hm,hs,hn];simpa only[hc]using hh⟩
  |none=>
   simp only[hs]at hh;obtain⟨n,hn⟩:=Bz cf f a h r hh;exact⟨n,by unfold bN;simp only[hm,hs];exact hn⟩
theorem BA(cf:dS){K:St->Option Out}{K':Nat->St->Option Out}(hK: ∀st r,K st=some r-> ∃n,K' n st=some r)(hm: ∀n m,n<=m-> ∀st r,K' n st=some r->K' m st=some r)
  (d:Bool) (o:Oper) (st:St) (r:Out) (h:eJ cf (call cf) d o st K=some r): ∃n,eJ cf (mH cf n).1 d o st (K' n)=some r:=by
   unfold eJ at h
   cases ho:aT cf st.tm st.hp o.op with
   |none=>simp[ho]at h
   |some q=>
    cases q with
    |val v h1=>
     simp only[ho]at h;obtain⟨n,hn⟩:=hK _ _ h
     exact⟨n,by simp only[eJ,ho];exact hn⟩
    |iK v=>simp only[ho]at h;exact⟨0,by simp only[eJ,ho];exact h⟩
    |call f args=>
     simp only[ho]at h
     cases hg:d&&(ya o.op&& !re (cf.M f))with
     |true=>simp[hg]at h
     |false=>
     simp only[hg]at h
     cases hc:bN cf (call cf) f args st.hp with
     |none=>simp[hc]at h
     |some q=>
      simp only[hc]at h;obtain⟨n,hn⟩:=Lr cf _ _ _ _ hc
      cases q with
      |ret v h1=>
       obtain⟨m,hk⟩:=hK _ _ h;refine⟨max n m,?_⟩;simp only[eJ,ho,hg,yO (vJ cf (Nat.le_max_left n m)).1 _ _ _ _ hn]
       exact hm _ _ (Nat.le_max_right n m) _ _ hk
      |iK v h1=>exact⟨n,by simp only[eJ,ho,hg,hn];exact h⟩
theorem NL(cf:dS)(d:Bool)(ops:Array Oper): ∀(l:List Oper)(st:St)(r:Out),jh cf (call cf) d ops l st=some r-> ∃n,jh cf (mH cf n).1 d ops l st=some r:=by
 intro l
 induction l with
 |nil=>intro st r h;exact⟨0,h⟩
 |cons o rest ih=>
  have hm: ∀n m,n<=m-> ∀st r,jh cf (mH cf n).1 d ops rest st=some r->jh cf (mH cf m).1 d ops rest st=some r:=
   fun n m hl st r=>Bw (vJ cf hl).1 d ops rest st r
  intro st r h;simp only[jh]at h⊢;generalize dP ops o st.tm=g at h⊢
  cases g with
  |none=>exact BA cf (Bv ih) (fun n m hl=>pS (hm n m hl)) d _ _ _ h
  |some t=>
   simp only at h⊢
   by_cases hp:jD o.op=true
   ·simp only[if_pos hp]at h⊢;generalize Ej t (aT cf st.tm st.hp o.op) _=q at h⊢
    cases q with
    |none=>cases h
    |some q=>cases q with
     |val v h1=>exact ih _ _ h
     |call f a=>cases h
     |iK v=>cases h
   ·simp only[if_neg hp]at h⊢
    cases t with
    |false=>exact ih _ _ h
    |true=>exact BA cf (Bv ih) (fun n m hl=>pS (hm n m hl)) d _ _ _ h
theorem BB(cf:dS): ∀(c:Code)(st:St)(r:Out),bW cf (call cf) (gY cf) c st=some r-> ∃n,bW cf (mH cf n).1 (mH cf n).2 c st=some r:=by
 intro c
 induction c with
 |region id ops d=>
  intro st r h;simp only[bW]at h⊢;obtain⟨n,hn⟩:=NL cf _ _ _ _ _ (pT h).1
  exact⟨n,by rw[hn];rw[(pT h).1]at h;exact h⟩
 |seq a b rf rh=>
  intro st r h;simp only[bW]at h
  cases ha:bW cf (call cf) (gY cf) a st with
  |none=>simp[ha]at h
  |some q=>
   simp only[ha]at h;obtain⟨n,hn⟩:=rf _ _ ha
   cases q with
   |norm d8=>
    obtain⟨m,hk⟩:=rh _ _ h;refine⟨max n m,?_⟩;have hl:=vJ cf (Nat.le_max_left n m);have hr:=vJ cf (Nat.le_max_right n m);simp only[bW,mR hl.1 hl.2 _ _ _ hn]
    exact mR hr.1 hr.2 _ _ _ hk
   |exit j s=>exact⟨n,by simp only[bW,hn];exact h⟩
   |ret s=>exact⟨n,by simp only[bW,hn];exact h⟩
   |iK v hh=>exact⟨n,by simp only[bW,hn];exact h⟩
 |cond c a b rf rh=>
  intro st r h;simp only[bW]at h⊢;generalize ev cf.G st.tm c=e at h⊢
  match e,h with
  |some (.bool true),h=>exact rf _ _ h
  |some (.bool false),h=>exact rh _ _ h
 |block id c ih=>
  intro st r h;simp only[bW]at h
  cases ha:bW cf (call cf) (gY cf) c st with
  |none=>simp[ha]at h
  |some q=>
   simp only[ha]at h;obtain⟨n,hn⟩:=ih _ _ ha
   exact⟨n,by simp only[bW,hn];exact h⟩
 |loop c ih=>intro st r h;simp only[bW]at h⊢;exact fh h
 |scope c ih=>intro st r h;simp only[bW]at h⊢;exact ih _ _ h
 |skip=>intro st r h;exact⟨0,by simpa only[bW]using h⟩
 |exit id=>intro st r h;exact⟨0,by simpa only[bW]using h⟩
 |label id=>intro st r h;exact⟨0,by simpa only[bW]using h⟩
 |ret=>intro st r h;exact⟨0,by simpa only[bW]using h⟩
 |rangeFunc f p a b _ _=>intro st r h;simp[bW]at h
 |goto l=>intro st r h;simp[bW]at h
 |refuse w=>intro st r h;simp[bW]at h
theorem ub(cf:dS)(f:FuncId)(args:List af)(h:aC):call cf f args h=me cf (call cf) (gY cf) f args h:=by
 refine Ka fun r=>⟨fun hh=>?_,fun hh=>?_⟩
 ·obtain⟨n,hn⟩:=fh hh;have Qz:=(ua cf n).1 _ _ _ _ hn;exact yQ (fun f a h r=>CH cf n f a h r) (fun c st r=>yS cf n c st r) _ _ _ _ Qz
 ·have: ∃n,me cf (mH cf n).1 (mH cf n).2 f args h=some r:=by
   unfold me at hh
   cases hp:cf.pr f with
   |some p=>simp only[hp]at hh;exact⟨0,by unfold me;simp only[hp];exact hh⟩
   |none=>
    simp only[hp]at hh
    cases hf:cf.P.funcs[f]? with
    |none=>simp[hf]at hh
    |some fn=>
     simp only[hf]at hh
     cases hb:fn.body with
     |none=>simp[hb]at hh
     |some c=>
      simp only[hb]at hh
      cases he:bW cf (call cf) (gY cf) c ⟨ko args,h⟩with
      |none=>simp[he,oZ]at hh
      |some q=>
       obtain⟨n,hn⟩:=BB cf _ _ _ he;exact⟨n,by unfold me;simp only[hp,hf,hb,hn];rw[he]at hh;exact hh⟩
  obtain⟨n,hn⟩:=this;exact CH cf (n+1) _ _ _ _ hn
theorem uc(cf:dS)(c:Code)(st:St):gY cf c st=gG cf (call cf) (gY cf) c st:=by
 refine Ka fun r=>⟨fun hh=>?_,fun hh=>?_⟩
 ·obtain⟨n,hn⟩:=fh hh;have Qz:=(ua cf n).2 _ _ _ hn;exact w9 (fun f a h r=>CH cf n f a h r) (fun c st r=>yS cf n c st r) _ _ _ Qz
 ·have: ∃n,gG cf (mH cf n).1 (mH cf n).2 c st=some r:=by
   unfold gG at hh
   cases he:bW cf (call cf) (gY cf) c st with
   |none=>simp[he]at hh
   |some q=>
    obtain⟨n,hn⟩:=BB cf _ _ _ he;rw[he]at hh
    cases q with
    |norm d8=>
     obtain⟨m,hk⟩:=fh hh;refine⟨max n m,?_⟩;have hl:=vJ cf (Nat.le_max_left n m);unfold gG;rw[mR hl.1 hl.2 _ _ _ hn]
     exact(vJ cf (Nat.le_max_right n m)).2 _ _ _ hk
    |exit j s=>exact⟨n,by unfold gG;rw[hn];exact hh⟩
    |ret s=>exact⟨n,by unfold gG;rw[hn];exact hh⟩
    |iK v hp=>exact⟨n,by unfold gG;rw[hn];exact hh⟩
  obtain⟨n,hn⟩:=this;exact yS cf (n+1) _ _ _ hn
end Go.Am

/- The operations that leave the memory alone, all in one. -/
import Derived.Test.YtebciagembenjaaDoorGSBmF
set_option linter.unusedVariables false
set_option linter.unusedSimpArgs false
/- The operations that leave the memory alone, all in one. -/
set_option maxHeartbeats 4000000
namespace Go.Am
open Go
def isRead : Op → Bool
 | .move _=>true
 | .assign _=>true
 | .pick _ _ _=>true
 | .load _ _=>true
 | .nilCheck _=>true
 | .binOp _ _ _ _ _=>true
 | .unOp _ _ _=>true
 | .convert _ _ _=>true
 | .makeInterface _ _=>true
 | .makeFunc _ _ _=>true
 | .slice _ _ _ _ _=>true
 | .fieldAddr _ _ _=>true
 | .field _ _ _=>true
 | .indexAddr _ _ _=>true
 | .index _ _ _=>true
 | .lookup _ _ _ _=>true
 | .extract _ _=>true
 | .call { callee:=.builtin .len,.. }=>true
 | .call { callee:=.builtin .min,.. }=>true
 | .call { callee:=.builtin .max,.. }=>true
 | _=>false
structure OpsRep (G : Nat → Option AVal) (E : Env) (w : World) (tm : Nat → AVal) (ρ : Operand → Value) (xs : Array Operand) : Prop where
 rep : ∀ x ∈ xs,∀ v,ev G tm x = some v → Rep E w v (ρ x)
 con : ∀ c,ρ (.const c) = c
instance {G : Nat → Option AVal} {E : Env} {w : World} {tm : Nat → AVal} {ρ : Operand → Value} {xs : Array Operand} : CoeFun (OpsRep G E w tm ρ xs) (fun _=>∀ x ∈ xs,∀ v,ev G tm x = some v → Rep E w v (ρ x)):=⟨OpsRep.rep⟩
section
variable {cf : Cfg} {E : Env} {w : World} {tm : Nat → AVal} {ρ : Operand → Value}
theorem OpsRep.list {xs : Array Operand} (hr : OpsRep cf.G E w tm ρ xs) {ys : Array Operand} (hs : ∀ y ∈ ys,y ∈ xs) {vs : List AVal} (h : mapO (ev cf.G tm) ys.toList = some vs) :
  vs.length = (ys.map ρ).size ∧ ∀ (i : Nat) (c : AVal) (v : Value),vs[i]? = some c → (ys.map ρ)[i]? = some v → Rep E w c v:=by
   obtain ⟨h1,h2⟩:=mapO_some h
   refine ⟨by simp at h1 ⊢; omega,fun i c v hc hv=>?_⟩
   simp only [Array.getElem?_map,Option.map_eq_some_iff] at hv
   obtain ⟨y,hy,rfl⟩:=hv
   exact hr y (hs y (Array.mem_of_getElem? hy)) c (h2 i y c (by simpa using hy) hc)
def okn (P : Program) (E : Env) (w : World) (x : Sem Next) (v : AVal) : Prop:=∃ u,x.run P w = .ok (.value u) w ∧ Rep E w v u
theorem okv.next {P : Program} {x : Sem Value} {v : AVal} (h : okv P E w x v) : okn P E w (do pure (.value (← x))) v:=by
 obtain ⟨u,h1,h2⟩:=h
 exact ⟨u,by simp [h1],h2⟩
theorem Rep.func' {fn : Fn} {a b : List AVal} {v : Value} (h : Rep E w (.func fn a b) v) : ∃ va vb,v = .func fn va vb:=by
 cases h with
 | clo h=>cases h; exact ⟨_,_,rfl⟩
 | func=>exact ⟨_,_,rfl⟩
def lenK : TypeDesc → AVal → Prop
 | .slice _,.nil=>True
 | .slice _,.sl _=>True
 | .slice _,.own _ _ _=>True
 | .string,.str _=>True
 | .map _ _,.map _=>True
 | .map _ _,.nilm=>True
 | .map _ _,.cmap _ _=>True
 | _,_=>False
theorem len_sound {P : Program} {h : Heap} (s : Sim E h w) {x : AVal} {v : Value} {n : Int} (hx : Rep E w x v) (hl : lenA h x = some n) (t : TypeId) (d : TypeDesc) (hd : P.underlying t = some d) (ty : TypeId)
  (hk : lenK d x) : okv P E w (Builtin.len_ #[t] ty #[v]) (.int .i64 n):=by
   revert hx hl hd
   unfold lenK at hk
   split at hk <;> intro hx hl hd
   ·cases hl
    cases hx with
    | clo hc=>cases hc with | nil a=>exact okv.int (by simp [Builtin.len_,run_underlying hd]; rfl)
   ·cases hl
    cases hx with
    | clo hc=>cases hc with | sl=>exact okv.int (by simp [Builtin.len_,run_underlying hd]; rfl)
   ·cases hl
    cases hx with
    | clo hc=>cases hc
    | own=>exact okv.int (by simp [Builtin.len_,run_underlying hd]; rfl)
    | ownD=>exact okv.int (by simp [Builtin.len_,run_underlying hd]; rfl)
   ·cases hl
    obtain rfl:=hx.str
    exact okv.int (by simp [Builtin.len_,run_underlying hd]; rfl)
   ·rename_i id
    obtain ⟨b,rfl,hm⟩:=hx.map'
    simp only [lenA] at hl
    cases ho : h[id]? with
    | none=>simp [ho] at hl
    | some o=>
     cases o with
     | amap ks vs=>
      simp only [ho] at hl
      cases hl
      rcases hm with hm | hm
      ·have hk':=s.obj id _ _ ho hm
       simp only [ObjOk] at hk'
       obtain ⟨es,clock,hb,hl1,_⟩:=hk'
       refine okv.int ?_
       simp [Builtin.len_,run_underlying hd,MapKept.run_getObj_map hb,goInt,hl1]
      ·have:=s.obj id _ _ ho hm
       simp [ObjOk] at this
     | _=>simp [ho] at hl
   ·cases hl
    obtain rfl:=hx.nilm'
    exact okv.int (by simp [Builtin.len_,run_underlying hd]; rfl)
   ·cases hl
    cases hx with
    | clo hc=>
     cases hc with
     | cmap ks vs b clock es hSb hb hk hv rk rv=>exact okv.int (by simp [Builtin.len_,run_underlying hd,MapKept.run_getObj_map hb,goInt,hk])
   ·exact hk.elim
theorem mm_some {b : Builtin} (hb : b = .max ∨ b = .min) {tys : Array TypeId} {args : Array Operand} {as : List AVal} {h : Heap} {r : OpR} (ha : mapO (ev cf.G tm) args.toList = some as) (hv : callA cf tm h ⟨.builtin b,args,tys⟩ = some r) :
  ∃ k x k' y,as = [.int k x,.int k' y] ∧ r = .val (.int k (if b = .max then (if y > x then y else x) else (if y < x then y else x))) h:=by
   rcases hb with rfl | rfl
   ·simp only [callA,ha] at hv
    split at hv
    all_goals first | contradiction | (cases hv; done) | (cases hv; exact ⟨_,_,_,_,rfl,rfl⟩)
   ·simp only [callA,ha] at hv
    split at hv
    all_goals first | contradiction | (cases hv; done) | (cases hv; exact ⟨_,_,_,_,rfl,rfl⟩)
theorem mm_val {b : Builtin} (hb : b = .max ∨ b = .min) {tys : Array TypeId} {args : Array Operand} {as : List AVal} {h : Heap} {r : OpR} (ha : mapO (ev cf.G tm) args.toList = some as) (hv : callA cf tm h ⟨.builtin b,args,tys⟩ = some r) : ∃ v,r = .val v h:=by
 obtain ⟨k,x,k',y,_,hr⟩:=mm_some hb ha hv
 exact ⟨_,hr⟩
theorem mm_sound {b : Builtin} (hb : b = .max ∨ b = .min) {tys : Array TypeId} {args : Array Operand} {as : List AVal} {h : Heap} {v : AVal} (ha : mapO (ev cf.G tm) args.toList = some as)
  (hv : callA cf tm h ⟨.builtin b,args,tys⟩ = some (.val v h)) (hl : as.length = (args.map ρ).size) (hr : ∀ (i : Nat) (c : AVal) (v : Value),as[i]? = some c → (args.map ρ)[i]? = some v → Rep E w c v) (dst : Option Tmp) (ty : TypeId) (pos : String) (after : Array Edge) (guard : Option (Nat × Bool)) :
  okn cf.P E w (execOp ρ ⟨dst,.call ⟨.builtin b,args,tys⟩,ty,pos,after,guard⟩) v:=by
   obtain ⟨k,x,k',y,rfl,he⟩:=mm_some hb ha hv
   cases he
   have h1 : args.map ρ = #[.int k x,.int k' y]:=by
    generalize args.map ρ = vs at hl hr
    match vs,hl,hr with
    | ⟨[]⟩,hl,_=>simp at hl
    | ⟨[_]⟩,hl,_=>simp at hl
    | ⟨[u,u']⟩,_,hr=>
     have e1:=(hr 0 _ u rfl rfl).int
     have e2:=(hr 1 _ u' rfl rfl).int
     subst e1 e2
     rfl
    | ⟨_ :: _ :: _ :: _⟩,hl,_=>simp at hl
   rcases hb with rfl | rfl
   ·exact ⟨_,by simp [execOp,resolve,h1,invoke,builtin,Builtin.max_,Builtin.max2],.clo (.int k _)⟩
   ·exact ⟨_,by simp [execOp,resolve,h1,invoke,builtin,Builtin.min_,Builtin.min2],.clo (.int k _)⟩
theorem isRead_val {h : Heap} {o : Op} {r : OpR} (hr : isRead o = true) (hv : opEval cf tm h o = some r) : ∃ v,r = .val v h:=by
 by_cases hp : pureOp o = true
 ·cases o <;> simp only [pureOp] at hp <;> try (cases hp; done)
  all_goals simp only [opEval] at hv
  case move x=>cases hx : ev cf.G tm x <;> simp [hx] at hv; exact ⟨_,hv.symm⟩
  case assign x=>cases hx : ev cf.G tm x <;> simp [hx] at hv; exact ⟨_,hv.symm⟩
  case pick c a b=>split at hv <;> simp at hv; exact ⟨_,hv.symm⟩
  case load t a=>split at hv <;> simp at hv; obtain ⟨a,_,rfl⟩:=hv; exact ⟨_,rfl⟩
  case binOp=>split at hv <;> simp at hv; obtain ⟨a,_,rfl⟩:=hv; exact ⟨_,rfl⟩
  case unOp=>split at hv <;> simp at hv; obtain ⟨a,_,rfl⟩:=hv; exact ⟨_,rfl⟩
  case convert=>split at hv <;> simp at hv; obtain ⟨a,_,rfl⟩:=hv; exact ⟨_,rfl⟩
  case fieldAddr=>split at hv <;> simp at hv <;> exact ⟨_,hv.symm⟩
  case field=>split at hv <;> simp at hv; obtain ⟨a,_,rfl⟩:=hv; exact ⟨_,rfl⟩
  case indexAddr=>split at hv <;> simp at hv; obtain ⟨a,_,rfl⟩:=hv; exact ⟨_,rfl⟩
  case index=>split at hv <;> simp at hv; obtain ⟨a,_,rfl⟩:=hv; exact ⟨_,rfl⟩
  case lookup=>split at hv <;> simp at hv; obtain ⟨a,_,rfl⟩:=hv; exact ⟨_,rfl⟩
  case extract=>split at hv <;> simp at hv; obtain ⟨a,_,rfl⟩:=hv; exact ⟨_,rfl⟩
  case call c=>
   obtain ⟨callee,args,tys⟩:=c
   cases callee with
   | value f=>cases hp
   | invoke r m=>cases hp
   | builtin b=>
    cases b <;> simp only at hp <;> try (cases hp; done)
    simp only [callA] at hv
    cases ha : mapO (ev cf.G tm) args.toList with
    | none=>simp [ha] at hv
    | some as=>
     simp only [ha] at hv
     match as,hv with
     | [x],hv=>
      simp only at hv
      split at hv
      ·split at hv <;> simp at hv <;> exact ⟨_,hv.symm⟩
      ·split at hv <;> simp at hv <;> exact ⟨_,hv.symm⟩
      ·split at hv <;> simp at hv <;> exact ⟨_,hv.symm⟩
      ·cases hv
     | [],hv=>cases hv
     | _ :: _ :: _,hv=>cases hv
 ·cases o <;> simp only [isRead] at hr <;> (try (cases hr; done)) <;> (try (exact absurd rfl hp))
  all_goals simp only [opEval] at hv
  case nilCheck x=>
   split at hv
   ·split at hv <;> simp at hv; exact ⟨_,hv.symm⟩
   ·cases hv
  case makeInterface t x=>
   split at hv
   ·split at hv <;> simp at hv; exact ⟨_,hv.symm⟩
   ·cases hv
  case makeFunc=>split at hv <;> simp at hv; exact ⟨_,hv.symm⟩
  case slice=>split at hv <;> simp at hv; obtain ⟨a,_,rfl⟩:=hv; exact ⟨_,rfl⟩
  case call c=>
   obtain ⟨callee,args,tys⟩:=c
   cases callee with
   | value f=>cases hr
   | invoke r m=>cases hr
   | builtin b=>
    cases ha : mapO (ev cf.G tm) args.toList with
    | none=>simp [callA,ha] at hv
    | some as=>
     cases b <;> simp only at hr <;> (try (cases hr; done)) <;> (try (exact absurd rfl hp))
     ·exact mm_val (.inl rfl) ha hv
     ·exact mm_val (.inr rfl) ha hv
theorem read_sound {h : Heap} (s : Sim E h w) {o : Oper} {v : AVal} (hp : isRead o.op = true) (hr : OpsRep cf.G E w tm ρ o.op.operands) (hv : opEval cf tm h o.op = some (.val v h)) : okn cf.P E w (execOp ρ o) v:=by
 obtain ⟨dst,op,ty,pos,after,guard⟩:=o
 simp only at hp hr hv
 cases op <;> simp only [isRead] at hp <;> try (cases hp; done)
 all_goals simp only [Op.operands] at hr
 case move x=>
  simp only [opEval,Option.map_eq_some_iff] at hv
  obtain ⟨a,hx,he⟩:=hv
  cases he
  exact ⟨ρ x,rfl,hr x (by simp) _ hx⟩
 case assign x=>
  simp only [opEval,Option.map_eq_some_iff] at hv
  obtain ⟨a,hx,he⟩:=hv
  cases he
  exact ⟨ρ x,rfl,hr x (by simp) _ hx⟩
 case pick c a b=>
  simp only [opEval] at hv
  split at hv
  ·rename_i t x y hc ha hb
   cases hv
   have h1:=hr c (by simp) _ hc
   have h2:=hr a (by simp) _ ha
   have h3:=hr b (by simp) _ hb
   refine ⟨if t then ρ a else ρ b,?_,?_⟩
   ·simp [execOp,h1.bool,asBool]
   ·cases t <;> simp only [iteA] <;> assumption
  ·cases hv
 case load t a=>
  simp only [opEval] at hv
  split at hv
  ·rename_i x hx
   simp only [Option.map_eq_some_iff] at hv
   obtain ⟨r,hr',he⟩:=hv
   cases he
   exact okv.next (load_sound s (hr a (by simp) _ hx) hr')
  ·cases hv
 case nilCheck x=>
  simp only [opEval] at hv
  split at hv
  ·rename_i a hx
   split at hv
   ·rename_i hn
    cases hv
    have h1:=hr x (by simp) _ hx
    refine ⟨ρ x,?_,h1⟩
    cases v <;> simp only [nilOk] at hn <;> try (cases hn; done)
    case ptr id i off=>
     obtain ⟨ad,he⟩:=h1.somePtr (.inl ⟨_,_,_,rfl⟩)
     simp [execOp,he]
    case iptr xs i off=>
     obtain ⟨ad,he⟩:=h1.somePtr (.inr ⟨_,_,_,rfl⟩)
     simp [execOp,he]
    case iface t a=>
     obtain ⟨u,he,_⟩:=h1.iface'
     simp [execOp,he]
    case func fn a b=>
     cases fn <;> simp only at hn <;> try (cases hn; done)
     rename_i g
     have he : ∃ va vb,ρ x = .func (.func g) va vb:=by
      exact h1.func'
     obtain ⟨va,vb,he⟩:=he
     simp [execOp,he]
   ·cases hv
  ·cases hv
 case binOp op t x y t2=>
  simp only [opEval] at hv
  split at hv
  ·rename_i a b ha hb
   simp only [Option.map_eq_some_iff] at hv
   obtain ⟨r,hr',he⟩:=hv
   cases he
   exact okv.next (binA_sound hr' (hr x (by simp) _ ha) (hr y (by simp) _ hb) fun c hc=>by rw [hc]; exact hr.con c)
  ·cases hv
 case unOp op t x=>
  simp only [opEval] at hv
  split at hv
  ·rename_i a ha
   simp only [Option.map_eq_some_iff] at hv
   obtain ⟨r,hr',he⟩:=hv
   cases he
   exact okv.next (unA_sound hr' (hr x (by simp) _ ha))
  ·cases hv
 case convert sr d x=>
  simp only [opEval] at hv
  split at hv
  ·rename_i a ha
   simp only [Option.map_eq_some_iff] at hv
   obtain ⟨r,hr',he⟩:=hv
   cases he
   exact okv.next (convA_sound s hr' (hr x (by simp) _ ha))
  ·cases hv
 case makeInterface t x=>
  simp only [opEval] at hv
  split at hv
  ·rename_i a d ha hd
   split at hv
   ·cases hv
   ·rename_i hni
    cases hv
    refine okv.next ⟨.iface t (ρ x),?_,.iface t a _ (hr x (by simp) _ ha)⟩
    simp only [Instr.makeInterface,Sem.run_bind,run_underlying hd,Result.andThen_ok]
    cases d <;> first | rfl | exact absurd rfl (hni _)
  ·cases hv
 case makeFunc fn a b=>
  simp only [opEval] at hv
  split at hv
  ·rename_i as bs ha hb
   cases hv
   obtain ⟨l1,r1⟩:=OpsRep.list hr (ys:=a) (fun y hy=>by simp [hy]) ha
   obtain ⟨l2,r2⟩:=OpsRep.list hr (ys:=b) (fun y hy=>by simp [hy]) hb
   exact okv.next ⟨_,rfl,.func fn as bs _ _ l1 l2 r1 r2⟩
  ·cases hv
 case slice t x lo hi mx=>
  simp only [opEval] at hv
  split at hv
  ·rename_i a lo' hi' ha hlo hhi
   simp only [Option.map_eq_some_iff] at hv
   obtain ⟨r,hr',he⟩:=hv
   cases he
   have bound : ∀ (l : Option Operand) (l' : Option Int),optI cf.G tm l = some l' → (∀ o,l = some o → o ∈ #[x] ++ lo.toArray ++ hi.toArray ++ (none : Option Operand).toArray) →
     (∀ i,l' = some i → ∃ k,l.map ρ = some (.int k i)) ∧ (l' = none → l.map ρ = none):=by
      intro l l' hl hm
      cases l with
      | none=>simp only [optI] at hl; cases hl; exact ⟨fun i h=>(by cases h),fun _=>rfl⟩
      | some o=>
       simp only [optI,Option.map_eq_some_iff,Option.bind_eq_some_iff] at hl
       obtain ⟨i,⟨a,ha,hi⟩,rfl⟩:=hl
       refine ⟨fun j h=>?_,fun h=>by cases h⟩
       cases h
       cases a <;> simp only [intOfA] at hi <;> try (cases hi; done)
       cases hi
       have:=hr o (hm o rfl) _ ha
       exact ⟨_,by simp [this.int]; rfl⟩
   obtain ⟨b1,b2⟩:=bound lo lo' hlo (fun o ho=>by subst ho; simp)
   obtain ⟨b3,b4⟩:=bound hi hi' hhi (fun o ho=>by subst ho; simp)
   exact okv.next (slice_sound s hr' (hr x (by simp) _ ha) b1 b2 b3 b4)
  ·cases hv
 case fieldAddr sT x f=>
  simp only [opEval] at hv
  split at hv
  ·rename_i id i off k ha hk
   cases hv
   obtain ⟨u,h1,h2⟩:=(fieldAddr_sound hk (hr x (by simp) _ ha)).1 _ _ _ rfl
   exact okv.next ⟨u,h1,h2⟩
  ·rename_i xs i off k ha hk
   cases hv
   obtain ⟨u,h1,h2⟩:=(fieldAddr_sound hk (hr x (by simp) _ ha)).2 _ _ _ rfl
   exact okv.next ⟨u,h1,h2⟩
  ·cases hv
 case field t x f=>
  simp only [opEval] at hv
  split at hv
  ·rename_i a ha
   simp only [Option.map_eq_some_iff] at hv
   obtain ⟨r,hr',he⟩:=hv
   cases he
   exact okv.next (field_sound (hr x (by simp) _ ha) hr')
  ·cases hv
 case indexAddr t x i=>
  simp only [opEval] at hv
  split at hv
  ·rename_i a k i' ha hi
   simp only [Option.map_eq_some_iff] at hv
   obtain ⟨r,hr',he⟩:=hv
   cases he
   have h2:=(hr i (by simp) _ hi).int
   simp only [execOp,h2]
   exact okv.next (addr_sound s hr' (hr x (by simp) _ ha))
  ·cases hv
 case index t x i=>
  simp only [opEval] at hv
  split at hv
  ·rename_i a k i' ha hi
   simp only [Option.map_eq_some_iff] at hv
   obtain ⟨r,hr',he⟩:=hv
   cases he
   have h2:=(hr i (by simp) _ hi).int
   simp only [execOp,h2]
   exact okv.next (index_sound hr' (hr x (by simp) _ ha))
  ·cases hv
 case lookup t m k ok=>
  simp only [opEval] at hv
  split at hv
  ·rename_i a b ha hb
   simp only [Option.map_eq_some_iff] at hv
   obtain ⟨r,hr',he⟩:=hv
   cases he
   exact okv.next (look_sound s hr' (hr m (by simp) _ ha) (hr k (by simp) _ hb))
  ·cases hv
 case extract t i=>
  simp only [opEval] at hv
  split at hv
  ·rename_i a ha
   simp only [Option.map_eq_some_iff] at hv
   obtain ⟨r,hr',he⟩:=hv
   cases he
   exact okv.next (extract_sound hr' (hr t (by simp) _ ha))
  ·cases hv
 case call c=>
  obtain ⟨callee,args,tys⟩:=c
  cases callee with
  | value f=>cases hp
  | invoke r m=>cases hp
  | builtin b=>
   simp only [opEval,callA] at hv
   cases ha : mapO (ev cf.G tm) args.toList with
   | none=>simp [ha] at hv
   | some as=>
    simp only [ha] at hv
    obtain ⟨hl,hrr⟩:=OpsRep.list hr (ys:=args) (fun y hy=>by simp [Call.operands,hy]) ha
    cases b <;> simp only at hp <;> try (cases hp; done)
    case len=>
     match as,hv with
     | [x],hv=>
      have h1 : ∃ u,args.map ρ = #[u]:=by
       generalize args.map ρ = vs at hl
       match vs,hl with
       | ⟨[]⟩,hl=>simp at hl
       | ⟨[u]⟩,_=>exact ⟨u,rfl⟩
       | ⟨_ :: _ :: _⟩,hl=>simp at hl
      obtain ⟨u,hu⟩:=h1
      have hx : Rep E w x u:=hrr 0 x u rfl (by rw [hu]; rfl)
      simp only at hv
      have fin : ∀ (n : Int) (t : TypeId) (d : TypeDesc),tys[0]? = some t → cf.P.underlying t = some d → lenA h x = some n →
        lenK d x → okn cf.P E w (execOp ρ ⟨dst,.call { callee:=.builtin .len,args,argTypes:=tys },ty,pos,after,guard⟩) (.int .i64 n):=by
         intro n t d ht hd hn hk
         obtain ⟨z,hz,hzr⟩:=len_sound s hx hn t d hd ty hk
         refine ⟨z,?_,hzr⟩
         have e : Builtin.len_ tys ty #[u] = Builtin.len_ #[t] ty #[u]:=by simp [Builtin.len_,ht]
         simp only [execOp,resolve,hu,invoke,builtin,Sem.run_bind,Sem.run_pure,Result.andThen_ok,e,hz]
      split at hv
      ·rename_i e n hd hn
       simp only [Option.bind_eq_some_iff] at hd
       obtain ⟨t,ht,hd⟩:=hd
       cases x <;> simp only at hv <;> first | cases hv | skip
       all_goals first | exact fin n t _ ht hd hn trivial | (simp [lenA] at hn; done)
      ·rename_i n hd hn
       simp only [Option.bind_eq_some_iff] at hd
       obtain ⟨t,ht,hd⟩:=hd
       cases x <;> simp only at hv <;> first | cases hv | skip
       all_goals first | exact fin n t _ ht hd hn trivial | (simp [lenA] at hn; done)
      ·rename_i n hd hn
       simp only [Option.bind_eq_some_iff] at hd
       obtain ⟨t,ht,hd⟩:=hd
       cases x <;> simp only at hv <;> first | cases hv | skip
       all_goals first | exact fin n t _ ht hd hn trivial | (simp [lenA] at hn; done)
      ·cases hv
     | [],hv=>cases hv
     | _ :: _ :: _,hv=>cases hv
    case max=>exact mm_sound (.inl rfl) ha (by simp only [callA,ha]; exact hv) hl hrr _ _ _ _ _
    case min=>exact mm_sound (.inr rfl) ha (by simp only [callA,ha]; exact hv) hl hrr _ _ _ _ _
end
end Go.Am

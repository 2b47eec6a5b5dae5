/- The operations that make: variables, structs, rows, maps. -/
import Derived.Test.YtncgofhhnhebjaaGreatGH3
import Derived.Great.BuildSlice
set_option linter.unusedVariables false
set_option linter.unusedSimpArgs false
/- The operations that leave the memory alone, all in one. -/
set_option maxHeartbeats 4000000
namespace Go.Am
open Go
def isRead : Op → Bool
 | .move _=>true
 | .assign _=>true
 | .pick _ _ _=>true
 | .load _ _=>true
 | .nilCheck _=>true
 | .binOp _ _ _ _ _=>true
 | .unOp _ _ _=>true
 | .convert _ _ _=>true
 | .makeInterface _ _=>true
 | .makeFunc _ _ _=>true
 | .slice _ _ _ _ _=>true
 | .fieldAddr _ _ _=>true
 | .field _ _ _=>true
 | .indexAddr _ _ _=>true
 | .index _ _ _=>true
 | .lookup _ _ _ _=>true
 | .extract _ _=>true
 | .call { callee:=.builtin .len,.. }=>true
 | .call { callee:=.builtin .min,.. }=>true
 | .call { callee:=.builtin .max,.. }=>true
 | _=>false
structure OpsRep (G : Nat → Option AVal) (E : Env) (w : World) (tm : Nat → AVal) (ρ : Operand → Value) (xs : Array Operand) : Prop where
 rep : ∀ x ∈ xs,∀ v,ev G tm x = some v → Rep E w v (ρ x)
 con : ∀ c,ρ (.const c) = c
instance {G : Nat → Option AVal} {E : Env} {w : World} {tm : Nat → AVal} {ρ : Operand → Value} {xs : Array Operand} : CoeFun (OpsRep G E w tm ρ xs) (fun _=>∀ x ∈ xs,∀ v,ev G tm x = some v → Rep E w v (ρ x)):=⟨OpsRep.rep⟩
section
variable {cf : Cfg} {E : Env} {w : World} {tm : Nat → AVal} {ρ : Operand → Value}
theorem OpsRep.list {xs : Array Operand} (hr : OpsRep cf.G E w tm ρ xs) {ys : Array Operand} (hs : ∀ y ∈ ys,y ∈ xs) {vs : List AVal} (h : mapO (ev cf.G tm) ys.toList = some vs) :
  vs.length = (ys.map ρ).size ∧ ∀ (i : Nat) (c : AVal) (v : Value),vs[i]? = some c → (ys.map ρ)[i]? = some v → Rep E w c v:=by
   obtain ⟨h1,h2⟩:=mapO_some h
   refine ⟨by simp at h1 ⊢; omega,fun i c v hc hv=>?_⟩
   simp only [Array.getElem?_map,Option.map_eq_some_iff] at hv
   obtain ⟨y,hy,rfl⟩:=hv
   exact hr y (hs y (Array.mem_of_getElem? hy)) c (h2 i y c (by simpa using hy) hc)
def okn (P : Program) (E : Env) (w : World) (x : Sem Next) (v : AVal) : Prop:=∃ u,x.run P w = .ok (.value u) w ∧ Rep E w v u
theorem okv.next {P : Program} {x : Sem Value} {v : AVal} (h : okv P E w x v) : okn P E w (do pure (.value (← x))) v:=by
 obtain ⟨u,h1,h2⟩:=h
 exact ⟨u,by simp [h1],h2⟩
theorem Rep.func' {fn : Fn} {a b : List AVal} {v : Value} (h : Rep E w (.func fn a b) v) : ∃ va vb,v = .func fn va vb:=by
 cases h with
 | clo h=>cases h; exact ⟨_,_,rfl⟩
 | func=>exact ⟨_,_,rfl⟩
def lenK : TypeDesc → AVal → Prop
 | .slice _,.nil=>True
 | .slice _,.sl _=>True
 | .slice _,.own _ _ _=>True
 | .string,.str _=>True
 | .map _ _,.map _=>True
 | .map _ _,.nilm=>True
 | .map _ _,.cmap _ _=>True
 | _,_=>False
theorem len_sound {P : Program} {h : Heap} (s : Sim E h w) {x : AVal} {v : Value} {n : Int} (hx : Rep E w x v) (hl : lenA h x = some n) (t : TypeId) (d : TypeDesc) (hd : P.underlying t = some d) (ty : TypeId)
  (hk : lenK d x) : okv P E w (Builtin.len_ #[t] ty #[v]) (.int .i64 n):=by
   revert hx hl hd
   unfold lenK at hk
   split at hk <;> intro hx hl hd
   ·cases hl
    cases hx with
    | clo hc=>cases hc with | nil a=>exact okv.int (by simp [Builtin.len_,run_underlying hd]; rfl)
   ·cases hl
    cases hx with
    | clo hc=>cases hc with | sl=>exact okv.int (by simp [Builtin.len_,run_underlying hd]; rfl)
   ·cases hl
    cases hx with
    | clo hc=>cases hc
    | own=>exact okv.int (by simp [Builtin.len_,run_underlying hd]; rfl)
    | ownD=>exact okv.int (by simp [Builtin.len_,run_underlying hd]; rfl)
   ·cases hl
    obtain rfl:=hx.str
    exact okv.int (by simp [Builtin.len_,run_underlying hd]; rfl)
   ·rename_i id
    obtain ⟨b,rfl,hm⟩:=hx.map'
    simp only [lenA] at hl
    cases ho : h[id]? with
    | none=>simp [ho] at hl
    | some o=>
     cases o with
     | amap ks vs=>
      simp only [ho] at hl
      cases hl
      rcases hm with hm | hm
      ·have hk':=s.obj id _ _ ho hm
       simp only [ObjOk] at hk'
       obtain ⟨es,clock,hb,hl1,_⟩:=hk'
       refine okv.int ?_
       simp [Builtin.len_,run_underlying hd,MapKept.run_getObj_map hb,goInt,hl1]
      ·have:=s.obj id _ _ ho hm
       simp [ObjOk] at this
     | _=>simp [ho] at hl
   ·cases hl
    obtain rfl:=hx.nilm'
    exact okv.int (by simp [Builtin.len_,run_underlying hd]; rfl)
   ·cases hl
    cases hx with
    | clo hc=>
     cases hc with
     | cmap ks vs b clock es hSb hb hk hv rk rv=>exact okv.int (by simp [Builtin.len_,run_underlying hd,MapKept.run_getObj_map hb,goInt,hk])
   ·exact hk.elim
theorem mm_some {b : Builtin} (hb : b = .max ∨ b = .min) {tys : Array TypeId} {args : Array Operand} {as : List AVal} {h : Heap} {r : OpR} (ha : mapO (ev cf.G tm) args.toList = some as) (hv : callA cf tm h ⟨.builtin b,args,tys⟩ = some r) :
  ∃ k x k' y,as = [.int k x,.int k' y] ∧ r = .val (.int k (if b = .max then (if y > x then y else x) else (if y < x then y else x))) h:=by
   rcases hb with rfl | rfl
   ·simp only [callA,ha] at hv
    split at hv
    all_goals first | contradiction | (cases hv; done) | (cases hv; exact ⟨_,_,_,_,rfl,rfl⟩)
   ·simp only [callA,ha] at hv
    split at hv
    all_goals first | contradiction | (cases hv; done) | (cases hv; exact ⟨_,_,_,_,rfl,rfl⟩)
theorem mm_val {b : Builtin} (hb : b = .max ∨ b = .min) {tys : Array TypeId} {args : Array Operand} {as : List AVal} {h : Heap} {r : OpR} (ha : mapO (ev cf.G tm) args.toList = some as) (hv : callA cf tm h ⟨.builtin b,args,tys⟩ = some r) : ∃ v,r = .val v h:=by
 obtain ⟨k,x,k',y,_,hr⟩:=mm_some hb ha hv
 exact ⟨_,hr⟩
theorem mm_sound {b : Builtin} (hb : b = .max ∨ b = .min) {tys : Array TypeId} {args : Array Operand} {as : List AVal} {h : Heap} {v : AVal} (ha : mapO (ev cf.G tm) args.toList = some as)
  (hv : callA cf tm h ⟨.builtin b,args,tys⟩ = some (.val v h)) (hl : as.length = (args.map ρ).size) (hr : ∀ (i : Nat) (c : AVal) (v : Value),as[i]? = some c → (args.map ρ)[i]? = some v → Rep E w c v) (dst : Option Tmp) (ty : TypeId) (pos : String) (after : Array Edge) (guard : Option (Nat × Bool)) :
  okn cf.P E w (execOp ρ ⟨dst,.call ⟨.builtin b,args,tys⟩,ty,pos,after,guard⟩) v:=by
   obtain ⟨k,x,k',y,rfl,he⟩:=mm_some hb ha hv
   cases he
   have h1 : args.map ρ = #[.int k x,.int k' y]:=by
    generalize args.map ρ = vs at hl hr
    match vs,hl,hr with
    | ⟨[]⟩,hl,_=>simp at hl
    | ⟨[_]⟩,hl,_=>simp at hl
    | ⟨[u,u']⟩,_,hr=>
     have e1:=(hr 0 _ u rfl rfl).int
     have e2:=(hr 1 _ u' rfl rfl).int
     subst e1 e2
     rfl
    | ⟨_ :: _ :: _ :: _⟩,hl,_=>simp at hl
   rcases hb with rfl | rfl
   ·exact ⟨_,by simp [execOp,resolve,h1,invoke,builtin,Builtin.max_,Builtin.max2],.clo (.int k _)⟩
   ·exact ⟨_,by simp [execOp,resolve,h1,invoke,builtin,Builtin.min_,Builtin.min2],.clo (.int k _)⟩
theorem isRead_val {h : Heap} {o : Op} {r : OpR} (hr : isRead o = true) (hv : opEval cf tm h o = some r) : ∃ v,r = .val v h:=by
 by_cases hp : pureOp o = true
 ·cases o <;> simp only [pureOp] at hp <;> try (cases hp; done)
  all_goals simp only [opEval] at hv
  case move x=>cases hx : ev cf.G tm x <;> simp [hx] at hv; exact ⟨_,hv.symm⟩
  case assign x=>cases hx : ev cf.G tm x <;> simp [hx] at hv; exact ⟨_,hv.symm⟩
  case pick c a b=>split at hv <;> simp at hv; exact ⟨_,hv.symm⟩
  case load t a=>split at hv <;> simp at hv; obtain ⟨a,_,rfl⟩:=hv; exact ⟨_,rfl⟩
  case binOp=>split at hv <;> simp at hv; obtain ⟨a,_,rfl⟩:=hv; exact ⟨_,rfl⟩
  case unOp=>split at hv <;> simp at hv; obtain ⟨a,_,rfl⟩:=hv; exact ⟨_,rfl⟩
  case convert=>split at hv <;> simp at hv; obtain ⟨a,_,rfl⟩:=hv; exact ⟨_,rfl⟩
  case fieldAddr=>split at hv <;> simp at hv <;> exact ⟨_,hv.symm⟩
  case field=>split at hv <;> simp at hv; obtain ⟨a,_,rfl⟩:=hv; exact ⟨_,rfl⟩
  case indexAddr=>split at hv <;> simp at hv; obtain ⟨a,_,rfl⟩:=hv; exact ⟨_,rfl⟩
  case index=>split at hv <;> simp at hv; obtain ⟨a,_,rfl⟩:=hv; exact ⟨_,rfl⟩
  case lookup=>split at hv <;> simp at hv; obtain ⟨a,_,rfl⟩:=hv; exact ⟨_,rfl⟩
  case extract=>split at hv <;> simp at hv; obtain ⟨a,_,rfl⟩:=hv; exact ⟨_,rfl⟩
  case call c=>
   obtain ⟨callee,args,tys⟩:=c
   cases callee with
   | value f=>cases hp
   | invoke r m=>cases hp
   | builtin b=>
    cases b <;> simp only at hp <;> try (cases hp; done)
    simp only [callA] at hv
    cases ha : mapO (ev cf.G tm) args.toList with
    | none=>simp [ha] at hv
    | some as=>
     simp only [ha] at hv
     match as,hv with
     | [x],hv=>
      simp only at hv
      split at hv
      ·split at hv <;> simp at hv <;> exact ⟨_,hv.symm⟩
      ·split at hv <;> simp at hv <;> exact ⟨_,hv.symm⟩
      ·split at hv <;> simp at hv <;> exact ⟨_,hv.symm⟩
      ·cases hv
     | [],hv=>cases hv
     | _ :: _ :: _,hv=>cases hv
 ·cases o <;> simp only [isRead] at hr <;> (try (cases hr; done)) <;> (try (exact absurd rfl hp))
  all_goals simp only [opEval] at hv
  case nilCheck x=>
   split at hv
   ·split at hv <;> simp at hv; exact ⟨_,hv.symm⟩
   ·cases hv
  case makeInterface t x=>
   split at hv
   ·split at hv <;> simp at hv; exact ⟨_,hv.symm⟩
   ·cases hv
  case makeFunc=>split at hv <;> simp at hv; exact ⟨_,hv.symm⟩
  case slice=>split at hv <;> simp at hv; obtain ⟨a,_,rfl⟩:=hv; exact ⟨_,rfl⟩
  case call c=>
   obtain ⟨callee,args,tys⟩:=c
   cases callee with
   | value f=>cases hr
   | invoke r m=>cases hr
   | builtin b=>
    cases ha : mapO (ev cf.G tm) args.toList with
    | none=>simp [callA,ha] at hv
    | some as=>
     cases b <;> simp only at hr <;> (try (cases hr; done)) <;> (try (exact absurd rfl hp))
     ·exact mm_val (.inl rfl) ha hv
     ·exact mm_val (.inr rfl) ha hv
theorem read_sound {h : Heap} (s : Sim E h w) {o : Oper} {v : AVal} (hp : isRead o.op = true) (hr : OpsRep cf.G E w tm ρ o.op.operands) (hv : opEval cf tm h o.op = some (.val v h)) : okn cf.P E w (execOp ρ o) v:=by
 obtain ⟨dst,op,ty,pos,after,guard⟩:=o
 simp only at hp hr hv
 cases op <;> simp only [isRead] at hp <;> try (cases hp; done)
 all_goals simp only [Op.operands] at hr
 case move x=>
  simp only [opEval,Option.map_eq_some_iff] at hv
  obtain ⟨a,hx,he⟩:=hv
  cases he
  exact ⟨ρ x,rfl,hr x (by simp) _ hx⟩
 case assign x=>
  simp only [opEval,Option.map_eq_some_iff] at hv
  obtain ⟨a,hx,he⟩:=hv
  cases he
  exact ⟨ρ x,rfl,hr x (by simp) _ hx⟩
 case pick c a b=>
  simp only [opEval] at hv
  split at hv
  ·rename_i t x y hc ha hb
   cases hv
   have h1:=hr c (by simp) _ hc
   have h2:=hr a (by simp) _ ha
   have h3:=hr b (by simp) _ hb
   refine ⟨if t then ρ a else ρ b,?_,?_⟩
   ·simp [execOp,h1.bool,asBool]
   ·cases t <;> simp only [iteA] <;> assumption
  ·cases hv
 case load t a=>
  simp only [opEval] at hv
  split at hv
  ·rename_i x hx
   simp only [Option.map_eq_some_iff] at hv
   obtain ⟨r,hr',he⟩:=hv
   cases he
   exact okv.next (load_sound s (hr a (by simp) _ hx) hr')
  ·cases hv
 case nilCheck x=>
  simp only [opEval] at hv
  split at hv
  ·rename_i a hx
   split at hv
   ·rename_i hn
    cases hv
    have h1:=hr x (by simp) _ hx
    refine ⟨ρ x,?_,h1⟩
    cases v <;> simp only [nilOk] at hn <;> try (cases hn; done)
    case ptr id i off=>
     obtain ⟨ad,he⟩:=h1.somePtr (.inl ⟨_,_,_,rfl⟩)
     simp [execOp,he]
    case iptr xs i off=>
     obtain ⟨ad,he⟩:=h1.somePtr (.inr ⟨_,_,_,rfl⟩)
     simp [execOp,he]
    case iface t a=>
     obtain ⟨u,he,_⟩:=h1.iface'
     simp [execOp,he]
    case func fn a b=>
     cases fn <;> simp only at hn <;> try (cases hn; done)
     rename_i g
     have he : ∃ va vb,ρ x = .func (.func g) va vb:=by
      exact h1.func'
     obtain ⟨va,vb,he⟩:=he
     simp [execOp,he]
   ·cases hv
  ·cases hv
 case binOp op t x y t2=>
  simp only [opEval] at hv
  split at hv
  ·rename_i a b ha hb
   simp only [Option.map_eq_some_iff] at hv
   obtain ⟨r,hr',he⟩:=hv
   cases he
   exact okv.next (binA_sound hr' (hr x (by simp) _ ha) (hr y (by simp) _ hb) fun c hc=>by rw [hc]; exact hr.con c)
  ·cases hv
 case unOp op t x=>
  simp only [opEval] at hv
  split at hv
  ·rename_i a ha
   simp only [Option.map_eq_some_iff] at hv
   obtain ⟨r,hr',he⟩:=hv
   cases he
   exact okv.next (unA_sound hr' (hr x (by simp) _ ha))
  ·cases hv
 case convert sr d x=>
  simp only [opEval] at hv
  split at hv
  ·rename_i a ha
   simp only [Option.map_eq_some_iff] at hv
   obtain ⟨r,hr',he⟩:=hv
   cases he
   exact okv.next (convA_sound s hr' (hr x (by simp) _ ha))
  ·cases hv
 case makeInterface t x=>
  simp only [opEval] at hv
  split at hv
  ·rename_i a d ha hd
   split at hv
   ·cases hv
   ·rename_i hni
    cases hv
    refine okv.next ⟨.iface t (ρ x),?_,.iface t a _ (hr x (by simp) _ ha)⟩
    simp only [Instr.makeInterface,Sem.run_bind,run_underlying hd,Result.andThen_ok]
    cases d <;> first | rfl | exact absurd rfl (hni _)
  ·cases hv
 case makeFunc fn a b=>
  simp only [opEval] at hv
  split at hv
  ·rename_i as bs ha hb
   cases hv
   obtain ⟨l1,r1⟩:=OpsRep.list hr (ys:=a) (fun y hy=>by simp [hy]) ha
   obtain ⟨l2,r2⟩:=OpsRep.list hr (ys:=b) (fun y hy=>by simp [hy]) hb
   exact okv.next ⟨_,rfl,.func fn as bs _ _ l1 l2 r1 r2⟩
  ·cases hv
 case slice t x lo hi mx=>
  simp only [opEval] at hv
  split at hv
  ·rename_i a lo' hi' ha hlo hhi
   simp only [Option.map_eq_some_iff] at hv
   obtain ⟨r,hr',he⟩:=hv
   cases he
   have bound : ∀ (l : Option Operand) (l' : Option Int),optI cf.G tm l = some l' → (∀ o,l = some o → o ∈ #[x] ++ lo.toArray ++ hi.toArray ++ (none : Option Operand).toArray) →
     (∀ i,l' = some i → ∃ k,l.map ρ = some (.int k i)) ∧ (l' = none → l.map ρ = none):=by
      intro l l' hl hm
      cases l with
      | none=>simp only [optI] at hl; cases hl; exact ⟨fun i h=>(by cases h),fun _=>rfl⟩
      | some o=>
       simp only [optI,Option.map_eq_some_iff,Option.bind_eq_some_iff] at hl
       obtain ⟨i,⟨a,ha,hi⟩,rfl⟩:=hl
       refine ⟨fun j h=>?_,fun h=>by cases h⟩
       cases h
       cases a <;> simp only [intOfA] at hi <;> try (cases hi; done)
       cases hi
       have:=hr o (hm o rfl) _ ha
       exact ⟨_,by simp [this.int]; rfl⟩
   obtain ⟨b1,b2⟩:=bound lo lo' hlo (fun o ho=>by subst ho; simp)
   obtain ⟨b3,b4⟩:=bound hi hi' hhi (fun o ho=>by subst ho; simp)
   exact okv.next (slice_sound s hr' (hr x (by simp) _ ha) b1 b2 b3 b4)
  ·cases hv
 case fieldAddr sT x f=>
  simp only [opEval] at hv
  split at hv
  ·rename_i id i off k ha hk
   cases hv
   obtain ⟨u,h1,h2⟩:=(fieldAddr_sound hk (hr x (by simp) _ ha)).1 _ _ _ rfl
   exact okv.next ⟨u,h1,h2⟩
  ·rename_i xs i off k ha hk
   cases hv
   obtain ⟨u,h1,h2⟩:=(fieldAddr_sound hk (hr x (by simp) _ ha)).2 _ _ _ rfl
   exact okv.next ⟨u,h1,h2⟩
  ·cases hv
 case field t x f=>
  simp only [opEval] at hv
  split at hv
  ·rename_i a ha
   simp only [Option.map_eq_some_iff] at hv
   obtain ⟨r,hr',he⟩:=hv
   cases he
   exact okv.next (field_sound (hr x (by simp) _ ha) hr')
  ·cases hv
 case indexAddr t x i=>
  simp only [opEval] at hv
  split at hv
  ·rename_i a k i' ha hi
   simp only [Option.map_eq_some_iff] at hv
   obtain ⟨r,hr',he⟩:=hv
   cases he
   have h2:=(hr i (by simp) _ hi).int
   simp only [execOp,h2]
   exact okv.next (addr_sound s hr' (hr x (by simp) _ ha))
  ·cases hv
 case index t x i=>
  simp only [opEval] at hv
  split at hv
  ·rename_i a k i' ha hi
   simp only [Option.map_eq_some_iff] at hv
   obtain ⟨r,hr',he⟩:=hv
   cases he
   have h2:=(hr i (by simp) _ hi).int
   simp only [execOp,h2]
   exact okv.next (index_sound hr' (hr x (by simp) _ ha))
  ·cases hv
 case lookup t m k ok=>
  simp only [opEval] at hv
  split at hv
  ·rename_i a b ha hb
   simp only [Option.map_eq_some_iff] at hv
   obtain ⟨r,hr',he⟩:=hv
   cases he
   exact okv.next (look_sound s hr' (hr m (by simp) _ ha) (hr k (by simp) _ hb))
  ·cases hv
 case extract t i=>
  simp only [opEval] at hv
  split at hv
  ·rename_i a ha
   simp only [Option.map_eq_some_iff] at hv
   obtain ⟨r,hr',he⟩:=hv
   cases he
   exact okv.next (extract_sound hr' (hr t (by simp) _ ha))
  ·cases hv
 case call c=>
  obtain ⟨callee,args,tys⟩:=c
  cases callee with
  | value f=>cases hp
  | invoke r m=>cases hp
  | builtin b=>
   simp only [opEval,callA] at hv
   cases ha : mapO (ev cf.G tm) args.toList with
   | none=>simp [ha] at hv
   | some as=>
    simp only [ha] at hv
    obtain ⟨hl,hrr⟩:=OpsRep.list hr (ys:=args) (fun y hy=>by simp [Call.operands,hy]) ha
    cases b <;> simp only at hp <;> try (cases hp; done)
    case len=>
     match as,hv with
     | [x],hv=>
      have h1 : ∃ u,args.map ρ = #[u]:=by
       generalize args.map ρ = vs at hl
       match vs,hl with
       | ⟨[]⟩,hl=>simp at hl
       | ⟨[u]⟩,_=>exact ⟨u,rfl⟩
       | ⟨_ :: _ :: _⟩,hl=>simp at hl
      obtain ⟨u,hu⟩:=h1
      have hx : Rep E w x u:=hrr 0 x u rfl (by rw [hu]; rfl)
      simp only at hv
      have fin : ∀ (n : Int) (t : TypeId) (d : TypeDesc),tys[0]? = some t → cf.P.underlying t = some d → lenA h x = some n →
        lenK d x → okn cf.P E w (execOp ρ ⟨dst,.call { callee:=.builtin .len,args,argTypes:=tys },ty,pos,after,guard⟩) (.int .i64 n):=by
         intro n t d ht hd hn hk
         obtain ⟨z,hz,hzr⟩:=len_sound s hx hn t d hd ty hk
         refine ⟨z,?_,hzr⟩
         have e : Builtin.len_ tys ty #[u] = Builtin.len_ #[t] ty #[u]:=by simp [Builtin.len_,ht]
         simp only [execOp,resolve,hu,invoke,builtin,Sem.run_bind,Sem.run_pure,Result.andThen_ok,e,hz]
      split at hv
      ·rename_i e n hd hn
       simp only [Option.bind_eq_some_iff] at hd
       obtain ⟨t,ht,hd⟩:=hd
       cases x <;> simp only at hv <;> first | cases hv | skip
       all_goals first | exact fin n t _ ht hd hn trivial | (simp [lenA] at hn; done)
      ·rename_i n hd hn
       simp only [Option.bind_eq_some_iff] at hd
       obtain ⟨t,ht,hd⟩:=hd
       cases x <;> simp only at hv <;> first | cases hv | skip
       all_goals first | exact fin n t _ ht hd hn trivial | (simp [lenA] at hn; done)
      ·rename_i n hd hn
       simp only [Option.bind_eq_some_iff] at hd
       obtain ⟨t,ht,hd⟩:=hd
       cases x <;> simp only at hv <;> first | cases hv | skip
       all_goals first | exact fin n t _ ht hd hn trivial | (simp [lenA] at hn; done)
      ·cases hv
     | [],hv=>cases hv
     | _ :: _ :: _,hv=>cases hv
    case max=>exact mm_sound (.inl rfl) ha (by simp only [callA,ha]; exact hv) hl hrr _ _ _ _ _
    case min=>exact mm_sound (.inr rfl) ha (by simp only [callA,ha]; exact hv) hl hrr _ _ _ _ _
end
end Go.Am
/- The operations that make: variables, structs, rows, maps. -/
set_option maxHeartbeats 4000000
namespace Go.Am
open Go
theorem Sim.place {E : Env} {H : Heap} {w : World} (s : Sim E H w) {id : Nat} {o : AObj} (ob : Obj) (sl : Slot) (hid : H[id]? = some o) (hn : E.m id = none) (hsl : sl.blk = some w.heap.size)
  (hok : ObjOk (E.put id sl) (w.alloc ob) o sl) : Sim (E.put id sl) H (w.alloc ob) ∧ Ext E H w (E.put id sl) H (w.alloc ob):=by
   have hne : ∀ k s',E.m k = some s' → k ≠ id:=fun k s' hs e=>by subst e; rw [hn] at hs; cases hs
   have hx : Ext E H w (E.put id sl) H (w.alloc ob):=by
    refine ⟨fun _ h=>h,fun _ h=>.inl h,fun b hb _=>heap_alloc_lt w ob hb,fun k s' hs=>.inl ?_,fun b hb=>?_,Nat.le_refl _,by simp,rfl,rfl,rfl⟩
    ·rw [Env.put_other E sl (hne k s' hs)]; exact hs
    ·obtain ⟨k,s',h1,h2⟩:=hb
     by_cases e : k = id
     ·subst e; rw [Env.put_same] at h1; cases h1; rw [hsl] at h2; cases h2; exact .inr (Nat.le_refl _)
     ·rw [Env.put_other E sl e] at h1; exact .inl ⟨k,s',h1,h2⟩
   refine ⟨⟨?_,?_,?_,?_,?_⟩,hx⟩
   ·intro k o' s' ho hs
    by_cases e : k = id
    ·subst e
     rw [Env.put_same] at hs
     cases hs
     rw [hid] at ho
     cases ho
     exact hok
    ·rw [Env.put_other E sl e] at hs
     exact (s.obj k o' s' ho hs).mono (fun a v hr=>hr.ext hx s) fun b hb=>heap_alloc_lt w ob (s.lt b ⟨k,s',hs,hb⟩)
   ·intro i j si sj b hi hj hbi hbj
    by_cases ei : i = id <;> by_cases ej : j = id
    ·omega
    ·subst ei
     rw [Env.put_same] at hi
     cases hi
     rw [Env.put_other E sl ej] at hj
     rw [hsl] at hbi
     cases hbi
     exact absurd (s.lt _ ⟨j,sj,hj,hbj⟩) (Nat.lt_irrefl _)
    ·subst ej
     rw [Env.put_same] at hj
     cases hj
     rw [Env.put_other E sl ei] at hi
     rw [hsl] at hbj
     cases hbj
     exact absurd (s.lt _ ⟨i,si,hi,hbi⟩) (Nat.lt_irrefl _)
    ·rw [Env.put_other E sl ei] at hi
     rw [Env.put_other E sl ej] at hj
     exact s.inj i j si sj b hi hj hbi hbj
   ·intro b hb hS
    obtain ⟨k,s',h1,h2⟩:=hb
    by_cases e : k = id
    ·subst e; rw [Env.put_same] at h1; cases h1; rw [hsl] at h2; cases h2; exact absurd (s.Slt _ hS) (Nat.lt_irrefl _)
    ·rw [Env.put_other E sl e] at h1; exact s.nS b ⟨k,s',h1,h2⟩ hS
   ·intro b hb
    obtain ⟨k,s',h1,h2⟩:=hb
    by_cases e : k = id
    ·subst e; rw [Env.put_same] at h1; cases h1; rw [hsl] at h2; cases h2; simp
    ·rw [Env.put_other E sl e] at h1
     have:=s.lt b ⟨k,s',h1,h2⟩
     simp; omega
   ·intro b hb
    have:=s.Slt b hb
    simp; omega
theorem Sim.sub {E : Env} {h H : Heap} {w : World} (s : Sim E H w) (hp : h <+: H) : Sim E h w:=
 ⟨fun id o sl ho hm=>s.obj id o sl (by obtain ⟨t,rfl⟩:=hp; rw [List.getElem?_append_left (List.getElem?_eq_some_iff.1 ho).1]; exact ho) hm,s.inj,s.nS,s.lt,s.Slt⟩
theorem Sim.more {E : Env} {h H : Heap} {w : World} (s : Sim E h w) (hp : h <+: H) (hf : ∀ k,h.length ≤ k → E.m k = none) : Sim E H w:=by
 refine ⟨fun id o sl ho hm=>s.obj id o sl ?_ hm,s.inj,s.nS,s.lt,s.Slt⟩
 have hlt : id < h.length:=Nat.lt_of_not_le fun hc=>by rw [hf id hc] at hm; cases hm
 obtain ⟨t,rfl⟩:=hp
 rw [List.getElem?_append_left hlt] at ho
 exact ho
theorem cell_new (w : World) (cs : Array Value) (el : TypeId) (j : Nat) : (w.alloc (.cells cs el)).cell? ⟨w.heap.size,j,none⟩ = cs[j]?:=by
 simp only [World.cell?,heap_alloc_new]
 rfl
theorem row_new (w : World) (cs : Array Value) (el : TypeId) : Row (w.alloc (.cells cs el)) w.heap.size cs.size:=⟨cs,el,heap_alloc_new w _,rfl⟩
theorem Rep.put {E : Env} {w : World} {H : Heap} (s : Sim E H w) {id : Nat} (sl : Slot) (hn : E.m id = none) (ob : Obj) {a : AVal} {v : Value} (h : Rep E w a v) : Rep (E.put id sl) (w.alloc ob) a v:=
 Rep.mono (E:=E) (E':=E.put id sl) (fun _ h=>h) (fun b hb=>heap_alloc_lt w ob (s.Slt b hb)) (fun k s' hs=>.inl (by rw [Env.put_other E sl (fun e=>by subst e; rw [hn] at hs; cases hs)]; exact hs)) h
def CellsRel (E : Env) (w : World) (l : List AVal) (cs : Array Value) : Prop:=l.length = cs.size ∧ ∀ (j : Nat) (c : AVal),l[j]? = some c → ∃ v,cs[j]? = some v ∧ Rep E w c v
def Flat (E : Env) (w : World) (sz : Nat) (es : List AVal) (cs : Array Value) : Prop:=
 es.length * sz = cs.size ∧ (∀ x ∈ es,x.cells.length = sz) ∧ ∀ (i : Nat) (x : AVal),es[i]? = some x → ∀ (j : Nat) (c : AVal),x.cells[j]? = some c → ∃ v,cs[i * sz + j]? = some v ∧ Rep E w c v
theorem Rep.rel {E : Env} {w : World} {a : AVal} {v : Value} (h : Rep E w a v) : CellsRel E w a.cells v.cells:=h.cells
def okx (P : Program) (E : Env) (H : Heap) (w : World) (x : Sem Next) (v : AVal) (lo hi : Nat) : Prop:=
 ∃ u w' E',x.run P w = .ok (.value u) w' ∧ Sim E' H w' ∧ Ext E H w E' H w' ∧ Rep E' w' v u ∧ ∀ k,E'.m k = E.m k ∨ (lo ≤ k ∧ k < hi)
section
variable {P : Program} {E : Env} {w : World} {H : Heap}
theorem new_box (s : Sim E H w) {id : Nat} (hn : E.m id = none) {x : AVal} {cs : Array Value} (el : TypeId) (hid : H[id]? = some (.box x)) (hc : CellsRel E w x.cells cs) :
  ∃ E',Sim E' H (w.alloc (.cells cs el)) ∧ Ext E H w E' H (w.alloc (.cells cs el)) ∧ Rep E' (w.alloc (.cells cs el)) (.ptr id 0 0) (.pointer (some ⟨w.heap.size,0,none⟩)) ∧ ∀ k,E'.m k = E.m k ∨ (id ≤ k ∧ k < id + 1):=by
   obtain ⟨h1,h2⟩:=s.place (.cells cs el) (.live w.heap.size cs.size 0) hid hn rfl ⟨row_new w cs el,by rw [hc.1]; exact Nat.le_refl _,fun j c hj=>by
    obtain ⟨v,g1,g2⟩:=hc.2 j c hj
    exact ⟨v,by rw [Nat.zero_add,cell_new]; exact g1,g2.put s _ hn _⟩⟩
   refine ⟨_,h1,h2,?_,fun k=>?_⟩
   ·have:=Rep.ptr (w:=w.alloc (.cells cs el)) id 0 0 w.heap.size cs.size 0 (Env.put_same E id (.live w.heap.size cs.size 0))
    simpa using this
   ·by_cases e : k = id
    ·exact .inr (by omega)
    ·exact .inl (Env.put_other E _ e)
theorem new_row (s : Sim E H w) {id : Nat} (hn : E.m id = none) {sz len cap : Nat} {es : List AVal} {cs : Array Value} (el : TypeId) (hid : H[id]? = some (.arr sz es)) (hc : Flat E w sz es cs) (hl : len ≤ cap) (hcap : cap ≤ es.length) :
  ∃ E',Sim E' H (w.alloc (.cells cs el)) ∧ Ext E H w E' H (w.alloc (.cells cs el)) ∧ Rep E' (w.alloc (.cells cs el)) (.own id 0 len) (.slice (some ⟨w.heap.size,0,none⟩) len cap) ∧ ∀ k,E'.m k = E.m k ∨ (id ≤ k ∧ k < id + 1):=by
   obtain ⟨f1,f2,f3⟩:=hc
   obtain ⟨h1,h2⟩:=s.place (.cells cs el) (.live w.heap.size cs.size sz) hid hn rfl ⟨rfl,row_new w cs el,by rw [f1]; exact Nat.le_refl _,f2,fun i x hx j c hj=>by
    obtain ⟨v,g1,g2⟩:=f3 i x hx j c hj
    exact ⟨v,by rw [cell_new]; exact g1,g2.put s _ hn _⟩⟩
   refine ⟨_,h1,h2,?_,fun k=>?_⟩
   ·refine .own id 0 len _ cap w.heap.size cs.size sz (Env.put_same E id _) hl (.inr ⟨by simp,?_⟩)
    rw [Nat.zero_add,← f1]
    exact Nat.mul_le_mul_right _ hcap
   ·by_cases e : k = id
    ·exact .inr (by omega)
    ·exact .inl (Env.put_other E _ e)
def fillOne (off : Nat) (cells : Array Value) (v : Value) : Array Value:=v.cells.zipIdx.foldl (fun cs (c,j)=>cs.setIfInBounds (off + j) c) cells
theorem fillOne_get (off : Nat) (cells : Array Value) (v : Value) (hle : off + v.cells.size ≤ cells.size) :
  (fillOne off cells v).size = cells.size ∧ ∀ k,(fillOne off cells v)[k]? = if off ≤ k ∧ k < off + v.cells.size then v.cells[k - off]? else cells[k]?:=by
   have h:=Go.Great.foldl_set off v.cells.toList 0 cells
   have e : fillOne off cells v = (v.cells.toList.zipIdx 0).foldl (fun cs (x : Value × Nat)=>cs.setIfInBounds (off + x.2) x.1) cells:=by
    unfold fillOne
    rw [← Array.foldl_toList,Array.toList_zipIdx]
   rw [e]
   refine ⟨h.1,fun k=>?_⟩
   rw [h.2 k]
   simp only [Nat.add_zero,Array.length_toList,Array.getElem?_toList]
   by_cases hk : off ≤ k ∧ k < off + v.cells.size
   ·rw [if_pos hk,if_pos ⟨hk.1,hk.2,by omega⟩]
   ·rw [if_neg hk,if_neg (fun h=>hk ⟨h.1,h.2.1⟩)]
theorem fill_cons (place : Nat → Option (Nat × Nat)) (cells : Array Value) (i : Nat) (v : Value) (rest : List (Nat × Value)) (off size : Nat) (hp : place i = some (off,size)) (hs : v.cells.size = size) (hle : off + size ≤ cells.size) :
  Instr.fill place cells ((i,v) :: rest) = Instr.fill place (fillOne off cells v) rest:=by
   have h1 : ¬ (v.cells.size ≠ size ∨ off + v.cells.size > cells.size):=by omega
   simp only [Instr.fill,hp]
   rw [if_neg (by simpa using h1)]
   rfl
theorem splice_get (cs vs : List AVal) (off : Nat) (hle : off + vs.length ≤ cs.length) (k : Nat) : (cs.take off ++ (vs ++ cs.drop (off + vs.length)))[k]? = if off ≤ k ∧ k < off + vs.length then vs[k - off]? else cs[k]?:=by
 have hl : (cs.take off).length = off:=by simp; omega
 by_cases h1 : k < off
 ·rw [if_neg (by omega),List.getElem?_append_left (by omega),List.getElem?_take,if_pos h1]
 ·rw [List.getElem?_append_right (by omega),hl]
  by_cases h2 : k < off + vs.length
  ·rw [if_pos ⟨by omega,h2⟩,List.getElem?_append_left (by omega)]
  ·rw [if_neg (by omega),List.getElem?_append_right (by omega),List.getElem?_drop]
   congr 1
   omega
theorem splice_rel {l vs : List AVal} {cs : Array Value} {v : Value} {off : Nat} (hc : CellsRel E w l cs) (hv : CellsRel E w vs v.cells) (hle : off + vs.length ≤ l.length) :
  CellsRel E w (l.take off ++ (vs ++ l.drop (off + vs.length))) (fillOne off cs v):=by
   have hle' : off + v.cells.size ≤ cs.size:=by rw [← hv.1,← hc.1]; exact hle
   obtain ⟨g1,g2⟩:=fillOne_get off cs v hle'
   refine ⟨by rw [g1,← hc.1]; simp; omega,fun j c hj=>?_⟩
   rw [splice_get _ _ _ hle] at hj
   rw [g2]
   by_cases hk : off ≤ j ∧ j < off + vs.length
   ·rw [if_pos hk] at hj
    rw [if_pos (by rw [← hv.1]; exact hk)]
    exact hv.2 _ _ hj
   ·rw [if_neg hk] at hj
    rw [if_neg (by rw [← hv.1]; exact hk)]
    exact hc.2 _ _ hj
inductive PartsRel (E : Env) (w : World) : List (Nat × AVal) → List (Nat × Value) → Prop
 | nil : PartsRel E w [] []
 | cons {p : Nat × AVal} {v : Nat × Value} {ps : List (Nat × AVal)} {vs : List (Nat × Value)} (h : p.1 = v.1 ∧ Rep E w p.2 v.2) (hr : PartsRel E w ps vs) : PartsRel E w (p :: ps) (v :: vs)
theorem fill_rel {pl : Nat → Option (Nat × Nat)} : ∀ (ps : List (Nat × AVal)) (vs : List (Nat × Value)) (l r : List AVal) (cs : Array Value),PartsRel E w ps vs → CellsRel E w l cs → fillParts pl l ps = some r →
  ∃ rs,Instr.fill pl cs vs = some rs ∧ CellsRel E w r rs:=by
   intro ps
   induction ps with
   | nil=>
    intro vs l r cs hp hc hf
    cases hp
    simp only [fillParts] at hf
    cases hf
    exact ⟨cs,rfl,hc⟩
   | cons p ps ih=>
    intro vs l r cs hp hc hf
    cases hp with
    | cons h1 hp=>
     rename_i v vs
     obtain ⟨i,a⟩:=p
     obtain ⟨i',u⟩:=v
     obtain ⟨rfl,hr⟩:=h1
     simp only [fillParts] at hf
     split at hf
     ·rename_i off sz hpl
      split at hf
      ·rename_i hle
       have hr':=hr.rel
       have hs : u.cells.size = sz:=by rw [← hr'.1]; exact hle.1
       rw [fill_cons pl cs i u vs off sz hpl hs (by rw [← hc.1]; exact hle.2)]
       refine ih vs _ r _ hp ?_ hf
       have:=splice_rel hc hr' (off:=off) (by rw [hle.1]; exact hle.2)
       rw [hle.1] at this
       exact this
      ·cases hf
     ·cases hf
theorem parts_rel {cf : Cfg} {tm : Nat → AVal} {ρ : Operand → Value} (ps : Array (Nat × Operand)) (hr : ∀ p ∈ ps.toList,∀ v,ev cf.G tm p.2 = some v → Rep E w v (ρ p.2)) (vs : List (Nat × AVal))
  (h : mapO (fun p=>(ev cf.G tm p.2).map fun v=>(p.1,v)) ps.toList = some vs) : PartsRel E w vs (ps.map fun (i,x)=>(i,ρ x)).toList:=by
   rw [Array.toList_map]
   revert vs hr
   generalize ps.toList = l
   induction l with
   | nil=>intro hr vs h; simp only [mapO] at h; cases h; exact .nil
   | cons p l ih=>
    intro hr vs h
    simp only [mapO] at h
    cases hp : ev cf.G tm p.2 with
    | none=>simp [hp] at h
    | some a=>
     cases hl : mapO (fun p=>(ev cf.G tm p.2).map fun v=>(p.1,v)) l with
     | none=>simp [hp,hl] at h
     | some r=>
      simp only [hp,hl,Option.map_some] at h
      cases h
      exact .cons ⟨rfl,hr p (by simp) a hp⟩ (ih (fun q hq=>hr q (by simp [hq])) r hl)
theorem zeroA_cells {t : TypeId} {z : AVal} (h : zeroA P t = some z) : ∃ i v,P.info? t = some i ∧ i.zero = some v ∧ ∀ (E : Env) (w : World),CellsRel E w z.cells v.cells:=by
 unfold zeroA at h
 simp only [Option.bind_eq_some_iff] at h
 obtain ⟨v,⟨i,hi,hz⟩,hv⟩:=h
 exact ⟨i,v,hi,hz,fun E w=>(Rep.clo (ofV_rep hv) : Rep E w z v).rel⟩
theorem mapM_opt {α β : Type} (f : α → Option β) : ∀ (l : List α),(∀ x ∈ l,(f x).isSome = true) → ∃ r,l.mapM f = some r ∧ ∀ i : Nat,r[i]? = (l[i]?).bind f
 | [],_=>⟨[],rfl,fun i=>by simp⟩
 | x :: l,h=>by
  obtain ⟨y,hy⟩:=Option.isSome_iff_exists.1 (h x (by simp))
  obtain ⟨r,hr,hg⟩:=mapM_opt f l fun z hz=>h z (by simp [hz])
  refine ⟨y :: r,by simp [List.mapM_cons,hy,hr],fun i=>?_⟩
  cases i with
  | zero=>simp [hy]
  | succ i=>simpa using hg i
theorem fill_congr {pl pl' : Nat → Option (Nat × Nat)} (h : ∀ i,pl i = pl' i) : ∀ (vs : List (Nat × Value)) (cs : Array Value),Instr.fill pl cs vs = Instr.fill pl' cs vs
 | [],cs=>rfl
 | (i,v) :: vs,cs=>by
  simp only [Instr.fill,h i]
  split
  ·rfl
  ·split
   ·rfl
   ·exact fill_congr h vs _
theorem build_sound {cf : Cfg} {tm : Nat → AVal} {ρ : Operand → Value} {t : TypeId} {ps : Array (Nat × Operand)} {z : AVal} {vs : List (Nat × AVal)} {r : List AVal} (hz : zeroA P t = some z) (hok : typesOk P t = true)
  (hr : ∀ p ∈ ps.toList,∀ v,ev cf.G tm p.2 = some v → Rep E w v (ρ p.2)) (hv : mapO (fun p=>(ev cf.G tm p.2).map fun v=>(p.1,v)) ps.toList = some vs) (hf : fillParts (placeA P t) z.cells vs = some r) :
  okv P E w (Instr.build t (ps.map fun (i,x)=>(i,ρ x))) (.agg r):=by
   obtain ⟨i,zv,hi,hzz,hzr⟩:=zeroA_cells hz
   obtain ⟨rs,hrs,hrr⟩:=fill_rel _ _ _ _ _ (parts_rel ps hr vs hv) (hzr E w) hf
   refine ⟨.agg rs,run_build w t _ rs ?_,.agg r rs hrr.1 fun j c v hc hv=>?_⟩
   ·unfold Program.built
    unfold typesOk at hok
    split at hok
    ·rename_i fs hu
     obtain ⟨q,hq,hg⟩:=mapM_opt (fun f : Field=>(P.info? f.type).map fun i=>(f.offset,i.size)) fs.toList (fun f hf=>by
      have:=List.all_eq_true.1 hok f hf
      obtain ⟨x,hx⟩:=Option.isSome_iff_exists.1 this
      simp [hx])
     simp only [hi,hu,hzz,hq]
     rw [← hrs]
     refine fill_congr (fun k=>?_) _ _
     simp only [List.getElem?_toArray,hg,placeA,hu,Array.getElem?_toList]
     cases fs[k]? <;> rfl
    ·rename_i n e hu
     obtain ⟨x,hx⟩:=Option.isSome_iff_exists.1 hok
     simp only [hi,hu,hzz,hx]
     rw [← hrs]
     refine fill_congr (fun k=>?_) _ _
     simp [placeA,hu,hx]
    ·cases hok
   ·obtain ⟨u,hu,hru⟩:=hrr.2 j c hc
    rw [hv] at hu
    cases hu
    exact hru
theorem flat_set {sz : Nat} {es : List AVal} {cs : Array Value} {i : Nat} {a : AVal} {v : Value} (hc : Flat E w sz es cs) (hr : Rep E w a v) (hi : i < es.length) (hs : a.cells.length = sz) : Flat E w sz (es.set i a) (fillOne (i * sz) cs v):=by
 obtain ⟨f1,f2,f3⟩:=hc
 have hr':=hr.rel
 have hvs : v.cells.size = sz:=by rw [← hr'.1]; exact hs
 have hle : i * sz + v.cells.size ≤ cs.size:=by
  rw [hvs,← f1,← Nat.succ_mul]
  exact Nat.mul_le_mul_right _ hi
 obtain ⟨g1,g2⟩:=fillOne_get (i * sz) cs v hle
 refine ⟨by rw [g1]; simpa using f1,fun x hx=>?_,fun k x hx j c hj=>?_⟩
 ·rcases List.mem_or_eq_of_mem_set hx with h | h
  ·exact f2 x h
  ·subst h; exact hs
 ·rw [g2]
  rw [List.getElem?_set] at hx
  split at hx
  ·rename_i e
   subst e
   simp [hi] at hx
   subst hx
   have hj' : j < sz:=by rw [← hs]; exact (List.getElem?_eq_some_iff.1 hj).1
   rw [if_pos (by omega),Nat.add_sub_cancel_left]
   exact hr'.2 j c hj
  ·rename_i e
   have hj' : j < sz:=by
    rw [← f2 x (List.mem_of_getElem? hx)]
    exact (List.getElem?_eq_some_iff.1 hj).1
   have hout : ¬ (i * sz ≤ k * sz + j ∧ k * sz + j < i * sz + v.cells.size):=by
    rw [hvs]
    rintro ⟨h1,h2⟩
    rcases Nat.lt_or_gt_of_ne e with h | h
    ·have:=Nat.mul_le_mul_right sz (show i + 1 ≤ k from h)
     rw [Nat.succ_mul] at this
     omega
    ·have:=Nat.mul_le_mul_right sz (show k + 1 ≤ i from h)
     rw [Nat.succ_mul] at this
     omega
   rw [if_neg hout]
   exact f3 k x hx j c hj
theorem fillS_rel {sz : Nat} : ∀ (ps : List (Nat × AVal)) (vs : List (Nat × Value)) (es r : List AVal) (cs : Array Value),PartsRel E w ps vs → Flat E w sz es cs → setParts es sz ps = some r →
  ∃ rs,Instr.fill (fun i=>some (i * sz,sz)) cs vs = some rs ∧ Flat E w sz r rs ∧ r.length = es.length:=by
   intro ps
   induction ps with
   | nil=>
    intro vs es r cs hp hc hf
    cases hp
    simp only [setParts] at hf
    cases hf
    exact ⟨cs,rfl,hc,rfl⟩
   | cons p ps ih=>
    intro vs es r cs hp hc hf
    cases hp with
    | cons h1 hp=>
     rename_i v vs
     obtain ⟨i,a⟩:=p
     obtain ⟨i',u⟩:=v
     obtain ⟨rfl,hr⟩:=h1
     simp only [setParts] at hf
     split at hf
     ·rename_i hle
      have hs : u.cells.size = sz:=by rw [← hr.rel.1]; exact hle.2
      have hle2 : i * sz + sz ≤ cs.size:=by
       rw [← hc.1,← Nat.succ_mul]
       exact Nat.mul_le_mul_right _ hle.1
      rw [fill_cons (fun i=>some (i * sz,sz)) cs i u vs (i * sz) sz rfl hs hle2]
      obtain ⟨rs,g1,g2,g3⟩:=ih vs _ r _ hp (flat_set hc hr hle.1 hle.2) hf
      exact ⟨rs,g1,g2,by rw [g3]; simp⟩
     ·cases hf
theorem made_flat {z : AVal} {zv : Value} (hz : CellsRel E w z.cells zv.cells) (n : Nat) : Flat E w z.cells.length (List.replicate n z) (madeCells zv.cells (n * z.cells.length)):=by
 refine ⟨by simp [size_madeCells],fun x hx=>by rw [(List.mem_replicate.1 hx).2],fun i x hx j c hj=>?_⟩
 rw [List.getElem?_replicate] at hx
 split at hx
 ·rename_i hi
  cases hx
  obtain ⟨v,hv,hr⟩:=hz.2 j c hj
  refine ⟨v,?_,hr⟩
  have hjl : j < z.cells.length:=(List.getElem?_eq_some_iff.1 hj).1
  have hlt : i * z.cells.length + j < n * z.cells.length:=by
   have:=Nat.mul_le_mul_right z.cells.length (show i + 1 ≤ n from hi)
   rw [Nat.succ_mul] at this
   omega
  unfold madeCells
  rw [Array.getElem?_map,Array.getElem?_range,if_pos hlt]
  simp only [Option.map_some,← hz.1,Nat.mul_add_mod_of_lt hjl]
  have : j < zv.cells.size:=by rw [← hz.1]; exact hjl
  rw [getElem!_pos zv.cells j this]
  rw [Array.getElem?_eq_getElem this] at hv
  exact hv
 ·cases hx
theorem run_buildSlice_any (w : World) (t e : TypeId) (len : Nat) (parts : Array (Nat × Value)) (cells : Array Value) (ie : TypeInfo) (z : Value)
  (hu : P.underlying t = some (.slice e)) (hie : P.info? e = some ie) (hz : ie.zero = some z) (hsmall : ¬ len * ie.size > 2 ^ 24)
  (h : Instr.fill (fun i=>some (i * ie.size,ie.size)) (madeCells z.cells (len * ie.size)) parts.toList = some cells) :
  (Instr.buildSlice t len parts).run P w = .ok (.slice (some ⟨w.heap.size,0,none⟩) len len) (w.alloc (.cells cells e)):=by
   by_cases hpos : len * ie.size = 0
   ·have e0 : madeCells z.cells (len * ie.size) = #[]:=by rw [hpos]; simp [madeCells]
    rw [e0] at h
    simp only [hpos] at hsmall
    simp [Instr.buildSlice,run_underlying hu,sizeOf,typeInfo,hie,hpos,h,newRow,Array.range_zero']
   ·exact run_buildSlice w t e len parts cells ie z hu hie hz hsmall hpos h
end
end Go.Am

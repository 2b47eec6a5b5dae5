/- Maps that are written; every operation but a call, all in one. -/
import Derived.Test.YtebciagembenjaaDoorGSBmK
set_option linter.unusedVariables false
set_option linter.unusedSimpArgs false
/- Maps that are written; every operation but a call, all in one. -/
set_option maxHeartbeats 4000000
namespace Go.Am
open Go MapKept
section
variable {P : Program} {E : Env} {w : World} {h : Heap}
theorem bytes_beq_eq (x y : ByteArray) (h : (x == y) = true) : y = x:=by
 cases x; cases y
 rename_i a b
 have : (a == b) = true:=h
 rw [eq_of_beq this]
theorem sameNow_eq {d : TypeDesc} {a b : Value} (hk : IsKey d a) (h : Instr.sameNow d a b = some true) : b = a:=by
 cases d <;> cases a <;> (try exact hk.elim) <;> cases b <;> (try (simp [Instr.sameNow] at h; done))
 ·rename_i x y; simp [Instr.sameNow] at h; rw [h]
 ·rename_i k k1 x k2 y
  simp only [Instr.sameNow] at h
  split at h
  ·rename_i e; subst e; simp at h; rw [h]
  ·cases h
 ·rename_i x y; simp only [Instr.sameNow,Option.some.injEq] at h; rw [(bytes_beq_eq x y h)]
theorem put_sound (s : Sim E h w) (hf : Full E h) {t : TypeId} {m k v : AVal} {vm vk vv : Value} {h' : Heap} (hh : putMap P t m k v h = some h') (hm : Rep E w m vm) (hk : Rep E w k vk) (hv : Rep E w v vv) :
  ∃ w',(Instr.mapUpdate t vm vk vv).run P w = .ok () w' ∧ Sim E h' w' ∧ Full E h' ∧ Ext E h w E h' w':=by
   unfold putMap at hh
   split at hh
   ·rename_i kt et id hmt
    have hu:=mapT_some hmt
    obtain ⟨b,rfl,hmm⟩:=hm.map'
    cases ho : h[id]? with
    | none=>simp [ho] at hh
    | some o=>
     have hlt : id < h.length:=(List.getElem?_eq_some_iff.1 ho).1
     cases o <;> simp only [ho] at hh <;> try (cases hh; done)
     rename_i ks vs
     rcases hmm with hmm | hmm
     case inr=>
      have:=s.obj id _ _ ho hmm
      simp [ObjOk] at this
     split at hh
     ·rename_i hik
      obtain ⟨d,hd⟩:=isKey_desc hik
      have hK:=isKey_sound hd hik hk
      have hko:=s.obj id _ _ ho hmm
      simp only [ObjOk] at hko
      obtain ⟨es,clock,hb,hl1,hl2,hr1,hr2⟩:=hko
      have hbl : b < w.heap.size:=(Array.getElem?_eq_some_iff.1 hb).1
      have fin : ∀ (es' : Array MapEntry) (clock' : Nat) (ks' vs' : List AVal),(Instr.mapUpdate t (.map (some b)) vk vv).run P w = .ok () { w with heap:=w.heap.setIfInBounds b (.map es' clock') } →
        ks'.length = es'.size → vs'.length = es'.size →
        (∀ (i : Nat) (k : AVal) (e : MapEntry),ks'[i]? = some k → es'[i]? = some e → Rep E w k e.key) → (∀ (i : Nat) (v : AVal) (e : MapEntry),vs'[i]? = some v → es'[i]? = some e → Rep E w v e.val) →
        ∃ w',(Instr.mapUpdate t (.map (some b)) vk vv).run P w = .ok () w' ∧ Sim E (h.set id (.amap ks' vs')) w' ∧ Full E (h.set id (.amap ks' vs')) ∧ Ext E h w E (h.set id (.amap ks' vs')) w':=by
         intro es' clock' ks' vs' hrun h1 h2 h3 h4
         have hw:=s.write (w':={ w with heap:=w.heap.setIfInBounds b (.map es' clock') }) (o':=.amap ks' vs') hmm rfl hlt (by simp) (fun i hi=>by simp [Ne.symm hi]) rfl rfl rfl fun hr=>
          ⟨es',clock',by simp [hbl],h1,h2,fun i k e hk he=>hr _ _ (h3 i k e hk he),fun i v e hv he=>hr _ _ (h4 i v e hv he)⟩
         exact ⟨_,hrun,hw.1,fun k hk=>hf k (by simpa using hk),hw.2.1⟩
      cases hfk : findK P kt k ks 0 with
      | none=>simp [hfk] at hh
      | some q=>
       obtain ⟨g1,g2⟩:=find_sound hd hk ks es.toList 0 q hfk (by simpa using hl1) (fun i k e hk he=>hr1 i k e hk (by simpa using he))
       cases q with
       | none=>
        simp only [hfk] at hh
        cases hh
        refine fin (es.push { key:=vk,val:=vv,born:=clock }) (clock + 1) _ _ ?_ (by simp [hl1]) (by simp [hl2]) (fun i k' e hk' he=>?_) (fun i v' e hv' he=>?_)
        ·simp [Instr.mapUpdate,run_underlying hu,MapKept.run_getObj_map hb,MapKept.run_checkKey hd hK,MapKept.run_findKey hd (g1 rfl),MapKept.run_setObj_map _ hb]
        ·rw [Array.getElem?_push] at he
         by_cases e1 : i = es.size
         ·subst e1
          simp at he
          rw [List.getElem?_append_right (by omega)] at hk'
          simp [hl1] at hk'
          subst hk' he
          exact hk
         ·rw [if_neg e1] at he
          have:=(Array.getElem?_eq_some_iff.1 he).1
          rw [List.getElem?_append_left (by omega)] at hk'
          exact hr1 i k' e hk' he
        ·rw [Array.getElem?_push] at he
         by_cases e1 : i = es.size
         ·subst e1
          simp at he
          rw [List.getElem?_append_right (by omega)] at hv'
          simp [hl2] at hv'
          subst hv' he
          exact hv
         ·rw [if_neg e1] at he
          have:=(Array.getElem?_eq_some_iff.1 he).1
          rw [List.getElem?_append_left (by omega)] at hv'
          exact hr2 i v' e hv' he
       | some i=>
        simp only [hfk] at hh
        cases hh
        obtain ⟨_,e0,he0,hfn,hsame⟩:=g2 i rfl
        simp at he0
        have hkey:=sameNow_eq hK hsame
        have hkey' : ((es[i]?).map (·.key)).getD vk = vk:=by rw [he0]; simp [hkey]
        refine fin (es.modify i fun e=>{ e with key:=vk,val:=vv }) clock _ _ ?_ (by simp [hl1]) (by simp [hl2]) (fun j k' e hk' he=>?_) (fun j v' e hv' he=>?_)
        ·simp [Instr.mapUpdate,run_underlying hu,MapKept.run_getObj_map hb,MapKept.run_checkKey hd hK,MapKept.run_findKey hd hfn,hkey',MapKept.run_keyThatStays hK,MapKept.run_setObj_map _ hb]
        ·rw [Array.getElem?_modify] at he
         by_cases e1 : i = j
         ·subst e1
          simp [he0] at he
          subst he
          simpa [hkey] using hr1 i k' e0 hk' he0
         ·rw [if_neg e1] at he
          exact hr1 j k' e hk' he
        ·rw [Array.getElem?_modify] at he
         by_cases e1 : i = j
         ·subst e1
          simp [he0] at he
          subst he
          rw [List.getElem?_set] at hv'
          split at hv'
          ·split at hv'
           ·cases hv'; exact hv
           ·cases hv'
          ·rename_i hn; exact absurd rfl hn
         ·rw [if_neg e1] at he
          rw [List.getElem?_set,if_neg e1] at hv'
          exact hr2 j v' e hv' he
     ·cases hh
   ·cases hh
end
section
variable {cf : Cfg} {E : Env} {w : World} {tm : Nat → AVal} {ρ : Operand → Value}
theorem make_prefix {h h' : Heap} {o : Op} {v : AVal} (hm : isMake o = true) (hv : opEval cf tm h o = some (.val v h')) : h <+: h':=by
 by_cases hrd : isRead o = true
 ·obtain ⟨v',he⟩:=isRead_val hrd hv
  cases he
  exact List.prefix_refl _
 cases o <;> (try (exact absurd hm hrd)) <;> (try (simp only [isMake] at hm; cases hm; done))
 all_goals simp only [opEval] at hv
 case alloc t=>
  simp only [Option.map_eq_some_iff] at hv
  obtain ⟨z,hz,he⟩:=hv
  cases he
  exact ⟨_,rfl⟩
 case box t x=>
  simp only [Option.map_eq_some_iff] at hv
  obtain ⟨z,hz,he⟩:=hv
  cases he
  exact ⟨_,rfl⟩
 case build t ps=>
  split at hv
  ·split at hv
   ·split at hv
    ·cases hv; exact List.prefix_refl _
    ·cases hv
   ·cases hv
  ·cases hv
 case buildSlice t n ps=>
  split at hv
  ·split at hv
   ·split at hv
    ·split at hv
     ·split at hv
      ·cases hv
       cases n with
       | zero=>exact List.prefix_refl _
       | succ n=>exact ⟨_,rfl⟩
      ·cases hv
     ·cases hv
    ·cases hv
   ·cases hv
  ·cases hv
 case makeMap t r=>
  cases r with
  | some r=>simp [isMake,isRead] at hm
  | none=>simp only at hv; cases hv; exact ⟨_,rfl⟩
 case makeSlice t l c=>
  split at hv
  ·simp only [Option.map_eq_some_iff] at hv
   obtain ⟨q,hq,he⟩:=hv
   cases he
   unfold makeA at hq
   split at hq
   ·split at hq
    ·split at hq
     ·split at hq
      ·cases hq; exact ⟨_,rfl⟩
      ·cases hq
     ·cases hq
    ·cases hq
   ·cases hq
  ·cases hv
theorem okx.full {h H : Heap} {x : Sem Next} {v : AVal} (hp : h <+: H) (hf : Full E h) (hx : okx cf.P E H w x v h.length H.length) : okw cf.P E h w x v H:=by
 obtain ⟨u,w',E',h1,h2,h3,h4,h5⟩:=hx
 refine ⟨u,w',E',.inl h1,h2,fun k hk=>?_,?_,h4⟩
 ·rcases h5 k with h | h
  ·rw [h]; exact hf k (Nat.le_trans hp.length_le hk)
  ·omega
 ·exact ⟨⟨h3.S,h3.SN,h3.mem,h3.m,h3.new,Nat.le_trans hp.length_le h3.len,h3.size,h3.os,h3.tape,h3.output⟩,fun k g1 g2=>(h5 k).elim (fun h=>h.trans g2) fun h=>by omega⟩
theorem op_sound {h h' : Heap} (s : Sim E h w) (hf : Full E h) {o : Oper} {v : AVal} (hr : OpsRep cf.G E w tm ρ o.op.operands) (hv : opEval cf tm h o.op = some (.val v h')) : okw cf.P E h w (execOp ρ o) v h':=by
 by_cases hm : isMake o.op = true
 ·have hp:=make_prefix hm hv
  exact okx.full hp hf (make_sound (s.more hp hf) hm hr hv (List.prefix_refl _) (fun k h1 _=>hf k h1)).2
 obtain ⟨dst,op,ty,pos,after,guard⟩:=o
 simp only at hr hv hm
 cases op <;> (try (exact absurd rfl hm)) <;> (try (simp [opEval] at hv; done))
 case store t a x=>
  simp only [opEval] at hv
  simp only [Op.operands] at hr
  split at hv
  ·rename_i av xv ha hx
   simp only [Option.map_eq_some_iff] at hv
   obtain ⟨q,hq,he⟩:=hv
   cases he
   obtain ⟨w',h1,h2,h3,h4⟩:=store_sound s hf hq (hr a (by simp) _ ha) (hr x (by simp) _ hx)
   exact ⟨undef,w',E,.inr ⟨by simp [execOp,h1],rfl⟩,h2,h3,h4,.clo (.tup [] #[] rfl fun i c v hc=>by simp at hc)⟩
  ·cases hv
 case makeMap t r=>
  cases r with
  | none=>exact absurd rfl hm
  | some r=>simp [opEval] at hv
 case mapUpdate t m k x=>
  simp only [opEval] at hv
  simp only [Op.operands] at hr
  split at hv
  ·rename_i mv kv xv hm' hk hx
   simp only [Option.map_eq_some_iff] at hv
   obtain ⟨q,hq,he⟩:=hv
   cases he
   obtain ⟨w',h1,h2,h3,h4⟩:=put_sound s hf hq (hr m (by simp) _ hm') (hr k (by simp) _ hk) (hr x (by simp) _ hx)
   exact ⟨undef,w',E,.inr ⟨by simp [execOp,h1],rfl⟩,h2,h3,h4,.clo (.tup [] #[] rfl fun i c v hc=>by simp at hc)⟩
  ·cases hv
 case insert t m k x=>
  simp only [opEval] at hv
  simp only [Op.operands] at hr
  split at hv
  ·rename_i mv kv xv hm' hk hx
   simp only [Option.map_eq_some_iff] at hv
   obtain ⟨q,hq,he⟩:=hv
   cases he
   obtain ⟨w',h1,h2,h3,h4⟩:=put_sound s hf hq (hr m (by simp) _ hm') (hr k (by simp) _ hk) (hr x (by simp) _ hx)
   exact ⟨undef,w',E,.inr ⟨by simp [execOp,h1],rfl⟩,h2,h3,h4,.clo (.tup [] #[] rfl fun i c v hc=>by simp at hc)⟩
  ·cases hv
 case call c=>
  obtain ⟨callee,args,tys⟩:=c
  cases callee with
  | value f=>
   exfalso
   simp only [opEval,callA] at hv
   split at hv
   ·cases hv
   ·split at hv
    ·split at hv <;> simp at hv
    ·cases hv
  | invoke r m=>
   exfalso
   simp only [opEval,callA] at hv
   split at hv
   ·cases hv
   ·split at hv
    ·split at hv
     ·split at hv <;> simp at hv
     ·cases hv
    ·cases hv
  | builtin b=>
   have ha' : ∃ as,mapO (ev cf.G tm) args.toList = some as:=by
    simp only [opEval,callA] at hv
    cases ha : mapO (ev cf.G tm) args.toList with
    | none=>simp [ha] at hv
    | some as=>exact ⟨as,rfl⟩
   obtain ⟨as,ha⟩:=ha'
   obtain ⟨hl,hrr⟩:=OpsRep.list hr (ys:=args) (fun y hy=>by simp [Op.operands,Call.operands,hy]) ha
   cases b <;> (try (exact absurd rfl hm)) <;> (try (simp [opEval,callA,ha] at hv; done))
   case append=>
    have h2 : ∃ a x,as = [a,x]:=by
     simp only [opEval,callA,ha] at hv
     match as,hv with
     | [a,x],_=>exact ⟨a,x,rfl⟩
     | [],hv=>cases hv
     | [_],hv=>cases hv
     | _ :: _ :: _ :: _,hv=>cases hv
    obtain ⟨a,x,rfl⟩:=h2
    have h1 : ∃ va vx,args.map ρ = #[va,vx]:=by
     generalize args.map ρ = vs at hl
     match vs,hl with
     | ⟨[]⟩,hl=>simp at hl
     | ⟨[_]⟩,hl=>simp at hl
     | ⟨[u,u']⟩,_=>exact ⟨u,u',rfl⟩
     | ⟨_ :: _ :: _ :: _⟩,hl=>simp at hl
    obtain ⟨va,vx,hvx⟩:=h1
    rw [hvx] at hrr
    have ra : Rep E w a va:=hrr 0 a va rfl rfl
    have rx : Rep E w x vx:=hrr 1 x vx rfl rfl
    simp only [opEval,callA,ha] at hv
    split at hv
    ·rename_i t d ht hd
     simp only [Option.bind_eq_some_iff] at hd
     obtain ⟨tx,htx,hd⟩:=hd
     have fin : ∀ q,appendA cf.P t a x h = some q → (.val q.1 q.2 : OpR) = .val v h' → ((∃ e',cf.P.underlying tx = some (.slice e')) ∨ cf.P.underlying tx = some .string) →
       okw cf.P E h w (execOp ρ ⟨dst,.call ⟨.builtin .append,args,tys⟩,ty,pos,after,guard⟩) v h':=by
        intro q hq he hk
        cases he
        obtain ⟨u,w',E',g1,g2,g3,g4,g5⟩:=append_sound (ty:=ty) s hf hq ra rx hk
        refine ⟨u,w',E',.inl ?_,g2,g3,g4,g5⟩
        have e : Builtin.append_ tys ty #[va,vx] = Builtin.append_ #[t,tx] ty #[va,vx]:=by simp [Builtin.append_,ht,htx]
        simp only [execOp,resolve,hvx,invoke,builtin,Sem.run_bind,Sem.run_pure,Result.andThen_ok,e,g1]
     split at hv
     ·rename_i e'
      simp only [Option.map_eq_some_iff] at hv
      obtain ⟨q,hq,he⟩:=hv
      exact fin q hq he (.inl ⟨e',hd⟩)
     ·simp only [Option.map_eq_some_iff] at hv
      obtain ⟨q,hq,he⟩:=hv
      exact fin q hq he (.inr hd)
     ·cases hv
    ·cases hv
 case panic x=>
  simp only [opEval] at hv
  split at hv <;> simp at hv
end
end Go.Am

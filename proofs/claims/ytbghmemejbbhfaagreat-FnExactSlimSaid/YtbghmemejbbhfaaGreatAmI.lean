/- The operations that read or make, all in one. -/
import Derived.Test.YtbghmemejbbhfaaGreatAmH
set_option linter.unusedVariables false
set_option linter.unusedSimpArgs false
namespace Go.Am
open Go

def isMake : Op → Bool
  | .alloc _ => true
  | .box _ _ => true
  | .build _ _ => true
  | .buildSlice _ _ _ => true
  | .makeMap _ none => true
  | .makeSlice _ _ _ => true
  | o => isRead o

section
variable {cf : Cfg} {E : Env} {w : World} {tm : Nat → AVal} {ρ : Operand → Value} {H : Heap}
theorem okn.okx {x : Sem Next} {v : AVal} (s : Sim E H w) (h : okn cf.P E w x v) (lo hi : Nat) : okx cf.P E H w x v lo hi := by
  obtain ⟨u, h1, h2⟩ := h
  exact ⟨u, w, E, h1, s, Ext.refl E H w, h2, fun k => .inl rfl⟩
theorem last_prefix {h H : Heap} {o : AObj} (hp : h ++ [o] <+: H) : H[h.length]? = some o := by
  obtain ⟨t, rfl⟩ := hp
  rw [List.append_assoc, List.getElem?_append_right (Nat.le_refl _)]
  simp
theorem okx.of {x : Sem Value} {v : AVal} {lo hi : Nat} {u : Value} {w' : World} {E' : Env} (hr : x.run cf.P w = .ok u w') (h1 : Sim E' H w') (h2 : Ext E H w E' H w') (h3 : Rep E' w' v u) (h4 : ∀ k, E'.m k = E.m k ∨ (lo ≤ k ∧ k < hi)) :
    okx cf.P E H w (do pure (.value (← x))) v lo hi := ⟨u, w', E', by simp [hr], h1, h2, h3, h4⟩
theorem make_sound {h h' : Heap} (s : Sim E H w) {o : Oper} {v : AVal} (hm : isMake o.op = true) (hr : OpsRep cf.G E w tm ρ o.op.operands) (hv : opEval cf tm h o.op = some (.val v h')) (hp : h' <+: H)
    (hn : ∀ k, h.length ≤ k → k < h'.length → E.m k = none) : h <+: h' ∧ okx cf.P E H w (execOp ρ o) v h.length h'.length := by
  by_cases hrd : isRead o.op = true
  · obtain ⟨v', he⟩ := isRead_val hrd hv
    cases he
    exact ⟨List.prefix_refl _, (read_sound (s.sub hp) hrd hr hv).okx s _ _⟩
  obtain ⟨dst, op, ty, pos, after, guard⟩ := o
  simp only at hm hr hv hrd
  cases op <;> (try (exact absurd hm hrd)) <;> (try (simp only [isMake] at hm; cases hm; done))
  all_goals simp only [Op.operands] at hr
  all_goals simp only [opEval] at hv
  case alloc t =>
    simp only [Option.map_eq_some_iff] at hv
    obtain ⟨z, hz, he⟩ := hv
    cases he
    obtain ⟨i, zv, hi, hzz, hzr⟩ := zeroA_cells hz
    obtain ⟨E', h1, h2, h3, h4⟩ := new_box s (hn _ (Nat.le_refl _) (by simp [boxA])) t (last_prefix hp) (hzr E w)
    refine ⟨⟨_, rfl⟩, okx.of ?_ h1 h2 h3 (by simpa [boxA] using h4)⟩
    simp [Instr.alloc, zeroValue, typeInfo, hi, hzz, newVar, newRow]
  case box t x =>
    simp only [Option.map_eq_some_iff] at hv
    obtain ⟨z, hz, he⟩ := hv
    cases he
    obtain ⟨E', h1, h2, h3, h4⟩ := new_box s (hn _ (Nat.le_refl _) (by simp [boxA])) t (last_prefix hp) (hr x (by simp) _ hz).rel
    refine ⟨⟨_, rfl⟩, okx.of ?_ h1 h2 h3 (by simpa [boxA] using h4)⟩
    simp [Instr.box, newVar, newRow]
  case build t ps =>
    split at hv
    · rename_i z vs hz hvs
      split at hv
      · rename_i hok
        split at hv
        · rename_i cs hcs
          cases hv
          refine ⟨List.prefix_refl _, (okv.next (build_sound hz hok (fun p hpp => hr p.2 (by simp; exact ⟨p.1, by simpa using hpp⟩)) hvs hcs)).okx s _ _⟩
        · cases hv
      · cases hv
    · cases hv
  case buildSlice t n ps =>
    split at hv
    · rename_i et sz vs hs hvs
      split at hv
      · rename_i hlim
        split at hv
        · rename_i z hz
          split at hv
          · rename_i hzs
            split at hv
            · rename_i es hes
              cases hv
              obtain ⟨i, hu, hi, hisz, _, _⟩ := selA_some hs
              obtain ⟨i', zv, hi', hzz, hzr⟩ := zeroA_cells hz
              rw [hi] at hi'
              cases hi'
              have hfl := made_flat (hzr E w) n
              rw [hzs] at hfl
              obtain ⟨rs, hrs, hrf, hlen⟩ := fillS_rel _ _ _ _ _ (parts_rel ps (fun p hpp => hr p.2 (by simp; exact ⟨p.1, by simpa using hpp⟩)) vs hvs) hfl hes
              have hln : es.length = n := by rw [hlen]; simp
              obtain ⟨E', h1, h2, h3, h4⟩ := new_row s (hn _ (Nat.le_refl _) (by simp [newA])) (len := n) (cap := n) et (last_prefix hp) hrf (Nat.le_refl _) (by omega)
              refine ⟨⟨_, rfl⟩, okx.of (run_buildSlice_any w t et n _ rs i zv hu hi hzz ?_ ?_) h1 h2 ?_ (by simpa [newA] using h4)⟩
              · rw [hisz]
                have := Nat.mul_le_mul hlim.1 hlim.2
                omega
              · rw [hisz]; exact hrs
              · simp only [newA, hln]; exact h3
            · cases hv
          · cases hv
        · cases hv
      · cases hv
    · cases hv
  case makeMap t r =>
    cases r with
    | some r => simp [isMake, isRead] at hm
    | none =>
      simp only at hv
      cases hv
      obtain ⟨h1, h2⟩ := s.place (id := h.length) (o := .amap [] []) (.map #[] 0) (.mapS w.heap.size) (last_prefix hp) (hn _ (Nat.le_refl _) (by simp)) rfl
        ⟨#[], 0, heap_alloc_new w _, rfl, rfl, fun i k e hk => by simp at hk, fun i k e hk => by simp at hk⟩
      refine ⟨⟨_, rfl⟩, okx.of ?_ h1 h2 (.map _ _ (Env.put_same E _ _)) (fun k => ?_)⟩
      · simp [Instr.makeMap]
      · by_cases e : k = h.length
        · right; simp; omega
        · exact .inl (Env.put_other E _ e)
  case makeSlice t l c =>
    split at hv
    · rename_i lv cv hl hc
      simp only [Option.map_eq_some_iff] at hv
      obtain ⟨q, hq, he⟩ := hv
      cases he
      unfold makeA at hq
      split at hq
      · rename_i e sz kl l' kc c' hs
        split at hq
        · rename_i hb
          split at hq
          · rename_i z hz
            split at hq
            · rename_i hzs
              cases hq
              obtain ⟨i, hu, hi, hisz, hby, _⟩ := selA_some hs
              obtain ⟨i', zv, hi', hzz, hzr⟩ := zeroA_cells hz
              rw [hi] at hi'
              cases hi'
              have hfl := made_flat (hzr E w) c'.toNat
              rw [hzs] at hfl
              obtain ⟨hb0, hb1, hb2⟩ := hb
              obtain ⟨E', h1, h2, h3, h4⟩ := new_row s (hn _ (Nat.le_refl _) (by simp)) (len := l'.toNat) (cap := c'.toNat) e (last_prefix hp) hfl (by omega) (by simp)
              refine ⟨⟨_, rfl⟩, okx.of (u := .slice (some ⟨w.heap.size, 0, none⟩) l'.toNat c'.toNat) ?_ h1 h2 h3 (by simpa using h4)⟩
              rw [(hr l (by simp) _ hl).int, (hr c (by simp) _ hc).int]
              have hmul : (i.bytes : Int) * c' ≤ 281474976710656 := by
                have e1 : (c'.toNat : Int) = c' := by omega
                have e2 : c'.toNat ≤ 4294967296 := by unfold sizeLim at hb2; omega
                have e3 := Nat.mul_le_mul hby e2
                have e4 : ((i.bytes * c'.toNat : Nat) : Int) = (i.bytes : Int) * c' := by rw [Int.natCast_mul, e1]
                rw [← e4]
                omega
              rw [run_make (P := cf.P) w t e i zv hu hi hzz kl kc l' c' hb0 hb1 hmul (by unfold sizeLim at hb2; omega), hisz]
            · cases hq
          · cases hq
        · cases hq
      · cases hq
    · cases hv
end
end Go.Am

/- Walk of slices.Clone over a record. -/
import Derived.Test.YtninnpcggeofmaaW20
namespace Go.Proofs.Ytninnpcggeofmaa
open Go.RowKit
set_option linter.unusedVariables false
set_option linter.unusedSimpArgs false

theorem wpList_cloneH {W : World} {ops : Array Oper} {rest : List Oper} {o : Oper} {a : Act} {Q : Exit → Act → World → Prop} (hgd : o.guard = none) (s x : Operand)
    (ho : o.op = .call { callee := .builtin .append, args := #[s, x], argTypes := #[22, 22] })
    (H : Nat) (hH : W.heap.size = H) (hs : a.eval s = .slice (some ⟨H, 0, none⟩) 0 0) (xs : List Hh) (ad : Addr) (n c : Nat) (hx : a.eval x = .slice (some ad) n c) (hv : IsHs W (.slice (some ad) n c) xs)
    (hlen : xs.length ≤ 1000000)
    (h : ∀ v' w', OwnHs w' W.heap.size v' xs → Below W.heap.size W w' → wpList Try.prog ops Q rest (a.put o.dst v') w') :
    wpList Try.prog ops Q (o :: rest) a (W.alloc (.cells #[] 24)) := by
  subst hH
  obtain ⟨i0, hi, hz0, hz1, hz2⟩ := info_parts infoHouse
  obtain ⟨A', c', e, hr⟩ := hv
  injection e with e1 e2 e3
  subst e1 e2 e3
  refine wpList_append_own_at _ hgd s x _ ho W.heap.size 24 i0 _ 10 80 Try.underlying22 hi hz0 hz1 hz2 rfl (by decide) _ 0 [] hs (World.ownsRow_made W #[] 0 (Nat.le_refl _) (by unfold maxLen; omega) rfl)
    ad xs.length c (xs.flatMap encH) hx (by rw [flatH_len]; omega) (fun j u hu => ?_) (fun u hu => ?_) (by unfold maxLen; omega) (by omega) (by simp) ?_
  · obtain ⟨hj, rfl⟩ := List.getElem?_eq_some_iff.1 hu
    obtain ⟨b, off, e, hb, hc⟩ := hr (by intro h0; rw [h0] at hj; simp at hj)
    injection e with e
    subst e
    have e : (⟨b, off, none⟩ : Addr).add j = ⟨b, off + j, none⟩ := by unfold Addr.add; split <;> simp_all
    rw [e, World.cell?_alloc_lt _ _ _ hb]
    exact hc j hj
  · obtain ⟨y, hy, hu2⟩ := List.mem_flatMap.1 hu
    simp [encH] at hu2
    rcases hu2 with rfl | rfl | rfl | rfl | rfl | rfl | rfl | rfl | rfl | rfl <;> rfl
  · intro v' w' h1 h2 _ h4
    simp only [Nat.zero_add, List.nil_append] at h1
    exact h v' w' h1 (((Below.refl _ W).alloc (Nat.le_refl _) _).grown h2 (by simp) (fun k hk => by
      simp [Value.ownBlock] at hk; omega))

set_option maxHeartbeats 1000000 in
theorem cloneH_any (v : Value) (l : List Hh) (w : World) (hv : IsHs w v l) (hl : l.length ≤ 1000000) : Calls Try.prog 41 #[v] w (OwnPost l w) := by
  have HV := Lib.hid hv
  obtain ⟨A, cap, rfl, hr⟩ := id hv
  clear hv
  cases A with
  | none =>
    have hl0 : l = [] := by
      cases l with
      | nil => rfl
      | cons x r =>
        obtain ⟨b, off, e, _⟩ := hr (by simp [encH])
        cases e
    clear hr
    subst hl0
    have hnil : ∀ W, (binOp .eql 22 (.slice none ([] : List Hh).length cap) (.slice none 0 0)).run Try.prog W = .ok (.bool true) W := fun _ => rfl
    dsimp only [List.length_nil] at hnil
    go_enter Try.func41, Try.ntmps41
    go_wp2_with (fail)
    go_ret
    exact ⟨_, rfl, ownH_none _ _, Below.refl _ _⟩
  | some ad =>
    clear hr
    have hnil : ∀ W, (binOp .eql 22 (.slice (some ad) l.length cap) (.slice none 0 0)).run Try.prog W = .ok (.bool false) W := fun _ => rfl
    go_enter Try.func41, Try.ntmps41
    go_wp2_with (at_builtin; go_must (refine wpList_cloneH rfl (.tmp 5) (.tmp 6) rfl w.heap.size rfl rfl l ad l.length cap rfl HV.out hl ?_); intro v1 w1 hown1 hb1; have HO := Lib.hid hown1; have HB := Lib.hid hb1; clear hown1 hb1)
    go_ret
    exact ⟨_, rfl, HO.out, HB.out⟩

end Go.Proofs.Ytninnpcggeofmaa

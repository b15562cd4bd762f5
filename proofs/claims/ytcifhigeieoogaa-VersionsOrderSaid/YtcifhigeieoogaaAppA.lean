/- append of a record to a record of the call's own, as a step of a region that draws. -/
import Derived.Test.YtcifhigeieoogaaW9
import Derived.Deep.Upon
import Derived.Deep.AppendSrc
namespace Go.Proofs.Ytcifhigeieoogaa
open Go Go.RowKit
set_option linter.unusedVariables false
set_option linter.unusedSimpArgs false

theorem grownBy_self (w : World) (r : Option Nat) : w.grownBy w r := by
  have h := World.grownBy_alloc w (.cells #[] 0) r
  exact ⟨rfl, rfl, rfl, Nat.le_refl _, fun _ _ _ => rfl⟩
theorem appH_run (W : World) (base : Nat) (ty : TypeId) (v u : Value) (xs ys : List Am) (hown : OwnAs W base v xs) (hu : IsAs W u ys) (hlen : xs.length + ys.length ≤ 1000000) (hb : base ≤ W.heap.size) :
    ∃ v' w', (Builtin.append_ #[22, 22] ty #[v, u]).run Try.prog W = .ok v' w' ∧ OwnAs w' base v' (xs ++ ys) ∧ W.grownBy w' v.ownBlock ∧ (v'.ownBlock = v.ownBlock ∨ v'.ownBlock = some W.heap.size) := by
  obtain ⟨i0, hi, hz0, hz1, hz2⟩ := info_parts infoA
  obtain ⟨A, c, rfl, hr⟩ := hu
  cases A with
  | none =>
    have hy : ys = [] := by
      cases ys with
      | nil => rfl
      | cons x r =>
        obtain ⟨b, off, e, _⟩ := hr (by simp [encA])
        cases e
    subst hy
    obtain ⟨A, cv, rfl⟩ := OwnAs.slice hown
    have hle : xs.length ≤ cv := by
      obtain ⟨_, h | ⟨g, cap, cur, e1, _, _, h3, _⟩⟩ := hown
      · have := h.1; injection this with _ h2 h3; omega
      · injection e1 with _ _ e3; omega
    exact ⟨_, _, run_append_nothing W 22 22 ty 27 i0 Try.underlying22 hi A xs.length cv hle _ (Src.ofNil W Try.underlying22 c), by rw [List.append_nil]; exact hown, grownBy_self W _, .inl rfl⟩
  | some ad =>
    obtain ⟨v', w', h1, h2, h3, _, h5⟩ := run_append_own_at (P := Try.prog) W base 22 ty 27 i0 _ 6 48 Try.underlying22 hi hz0 hz1 hz2 rfl (by decide) v xs.length (xs.flatMap encA) hown ad ys.length c (ys.flatMap encA) (by rw [flatA_len]; omega) (fun j u hu => by
      obtain ⟨hj, rfl⟩ := List.getElem?_eq_some_iff.1 hu
      obtain ⟨b, off, e, hb, hc⟩ := hr (by intro h0; rw [h0] at hj; simp at hj)
      injection e with e
      subst e
      have e : (⟨b, off, none⟩ : Addr).add j = ⟨b, off + j, none⟩ := by unfold Addr.add; split <;> simp_all
      rw [e]
      exact hc j hj) (fun u hu => by
      obtain ⟨y, hy, hu2⟩ := List.mem_flatMap.1 hu
      simp [encA] at hu2
      rcases hu2 with rfl | rfl | rfl | rfl | rfl | rfl <;> rfl) (by unfold maxLen; omega) (by omega) hb
    refine ⟨v', w', h1, ?_, h3, h5⟩
    unfold OwnAs
    rw [List.length_append, List.flatMap_append]
    exact h2
theorem step_appH {W : World} {ops : Array Oper} {o : Oper} {a : Act} {K : Act → World → Prop} {Q : Exit → Act → World → Prop} {E : Prop} (hgd : o.guard = none) (s x : Operand)
    (ho : o.op = .call { callee := .builtin .append, args := #[s, x], argTypes := #[22, 22] })
    (base : Nat) (v u : Value) (xs ys : List Am) (hs : a.eval s = v) (hx : a.eval x = u) (hown : OwnAs W base v xs) (hu : IsAs W u ys) (hlen : xs.length + ys.length ≤ 1000000) (hb : base ≤ W.heap.size)
    (hk : ∀ v' w', OwnAs w' base v' (xs ++ ys) → W.grownBy w' v.ownBlock → (v'.ownBlock = v.ownBlock ∨ v'.ownBlock = some W.heap.size) → K (a.put o.dst v') w') :
    if Region.wanted o (yielded ops a.tmps) = true then Oper.wp Try.prog o a W K Q else E := by
  have hw : Region.wanted o (yielded ops a.tmps) = true := by simp [Region.wanted, hgd]
  rw [if_pos hw]
  obtain ⟨v', w', hr, h2, h3, h5⟩ := appH_run W base o.type v u xs ys hown hu hlen hb
  unfold Oper.wp execOp
  simp only [ho, resolve, invoke, builtin, Sem.run_bind, Sem.run_pure, Result.andThen_ok, List.map_toArray, List.map_cons, List.map_nil, hs, hx, hr]
  exact hk v' w' h2 h3 h5
end Go.Proofs.Ytcifhigeieoogaa

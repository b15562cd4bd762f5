/- A row's own cells; a copy of a row of ints. -/
import Derived.Test.YtchjjcmlekknfaaPush
namespace Go.Proofs.Ytchjjcmlekknfaa
open Go.RowKit
set_option linter.unusedVariables false
set_option linter.unusedSimpArgs false

theorem own_ge {W : World} {base g n c : Nat} {xs : List Int} (h : OwnInts W base (.slice (some ⟨g, 0, none⟩) n c) xs) : base ≤ g := (World.ownsRow.lt h g rfl).1
theorem own_n {W : World} {base n c : Nat} {A : Option Addr} {xs : List Int} (h : OwnInts W base (.slice A n c) xs) : n = xs.length := by
  obtain ⟨A', c', e⟩ := own_slice h
  injection e
theorem own_cell {W : World} {base g n c : Nat} {xs : List Int} (h : OwnInts W base (.slice (some ⟨g, 0, none⟩) n c) xs) (k : Nat) (hk : k < xs.length) : W.cell? ⟨g, k, none⟩ = some (.int .i64 xs[k]) := by
  obtain rfl := own_n h
  have := World.ownsRow.cellAt h k (by omega)
  rw [this, List.getElem?_map, List.getElem?_eq_getElem hk]; rfl
theorem own_frozen {W : World} {base g n c : Nat} {xs : List Int} (h : OwnInts W base (.slice (some ⟨g, 0, none⟩) n c) xs) (k : Nat) : W.frozen? ⟨g, k, none⟩ = false := by
  obtain rfl := own_n h
  exact World.ownsRow.frozenAt h k
theorem own_set {W : World} {base g n c : Nat} {xs : List Int} (h : OwnInts W base (.slice (some ⟨g, 0, none⟩) n c) xs) (k : Nat) (y : Int) : OwnInts (W.setCell ⟨g, k, none⟩ (.int .i64 y)) base (.slice (some ⟨g, 0, none⟩) n c) (xs.set k y) := by
  obtain rfl := own_n h
  have := (World.ownsRow.stored h k (.int .i64 y)).1
  unfold OwnInts
  rw [List.map_set, List.length_set]
  exact this

theorem wpList_clone {W : World} {ops : Array Oper} {rest : List Oper} {o : Oper} {a : Act} {Q : Exit → Act → World → Prop} (hgd : o.guard = none) (s x : Operand)
    (ho : o.op = .call { callee := .builtin .append, args := #[s, x], argTypes := #[22, 22] })
    (H : Nat) (hH : W.heap.size = H) (hs : a.eval s = .slice (some ⟨H, 0, none⟩) 0 0) (xs : List Int) (A : Option Addr) (n c : Nat) (hx : a.eval x = .slice A n c) (hv : IsInts W (.slice A n c) xs)
    (hpos : 0 < xs.length) (hlen : xs.length ≤ 1000000)
    (h : ∀ g cap w', OwnInts w' W.heap.size (.slice (some ⟨g, 0, none⟩) xs.length cap) xs → Below W.heap.size W w' → wpList Try.prog ops Q rest (a.put o.dst (.slice (some ⟨g, 0, none⟩) xs.length cap)) w') :
    wpList Try.prog ops Q (o :: rest) a (W.alloc (.cells #[] 3)) := by
  subst hH
  obtain ⟨i0, hi, hz0, hz1, hz2⟩ := info_parts infoInt
  obtain ⟨A', c', e, hr⟩ := hv
  injection e with e1 e2 e3
  subst e1 e2 e3
  obtain ⟨b, off, rfl, hb, hc⟩ := hr (by intro h0; simp at h0; subst h0; simp at hpos)
  refine wpList_append_own_at _ hgd s x _ ho W.heap.size 3 i0 (.int .i64 0) 1 8 Try.underlying22 hi hz0 hz1 hz2 rfl (by decide) _ 0 [] hs (World.ownsRow_made W #[] 0 (Nat.le_refl _) (by unfold maxLen; omega) rfl)
    ⟨b, off, none⟩ xs.length c (xs.map (Value.int .i64)) hx (by simp) (fun j u hu => ?_) (by simp [Value.oneCell']) (by unfold maxLen; omega) (by omega) (by simp) ?_
  · obtain ⟨hj, rfl⟩ := List.getElem?_eq_some_iff.1 hu
    have e : (⟨b, off, none⟩ : Addr).add j = ⟨b, off + j, none⟩ := by unfold Addr.add; split <;> simp_all
    rw [e, World.cell?_alloc_lt _ _ _ hb]
    exact hc j hj
  · intro v' w' h1 h2 _ h4
    simp only [Nat.zero_add, List.nil_append] at h1
    obtain ⟨g, cap, rfl, hg, _⟩ := own_form h1 hpos
    exact h g cap w' h1 (((Below.refl _ W).alloc (Nat.le_refl _) _).grown h2 (by simp) (fun k hk => by
      simp [Value.ownBlock] at hk; omega))

end Go.Proofs.Ytchjjcmlekknfaa

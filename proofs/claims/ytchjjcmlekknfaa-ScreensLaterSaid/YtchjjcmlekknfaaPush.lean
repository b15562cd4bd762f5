/- Appending one int to a row of the call's own. -/
import Derived.Test.YtchjjcmlekknfaaBase
import Derived.Maps.AppendAt
import Derived.OwnWalk
import Derived.Deep.AppendLies
namespace Go.Proofs.Ytchjjcmlekknfaa
open Go.RowKit
set_option linter.unusedVariables false
set_option linter.unusedSimpArgs false

theorem cell_new1 (w : World) (x : Value) (t : TypeId) (j : Nat) (u : Value) (h : [x][j]? = some u) : (w.alloc (.cells #[x] t)).cell? ((⟨w.heap.size, 0, none⟩ : Addr).add j) = some u := by
  cases j with
  | zero =>
    simp at h
    subst h
    simp [Addr.add]
  | succ j => simp at h

theorem own_empty (w : World) (base : Nat) (hb : base ≤ w.heap.size) : OwnInts (w.alloc (.cells #[] 3)) base (.slice (some ⟨w.heap.size, 0, none⟩) 0 0) [] :=
  World.ownsRow_made w #[] 0 hb (by unfold maxLen; omega) rfl
theorem own_none (w : World) (base : Nat) : OwnInts w base (.slice none 0 0) [] := World.ownsRow_nil w base _ 1
theorem own_len {w : World} {base : Nat} {v : Value} {xs : List Int} (h : OwnInts w base v xs) : ∃ A c, v = .slice A xs.length c := own_slice h
theorem own_alloc {w : World} {base : Nat} {v : Value} {xs : List Int} (h : OwnInts w base v xs) (o : Obj) : OwnInts (w.alloc o) base v xs := World.ownsRow.alloc h o
theorem own_drewN {w : World} {base : Nat} {v : Value} {xs : List Int} (h : OwnInts w base v xs) (n : Nat) : OwnInts (w.drewN n) base v xs := h

theorem wpList_push {W : World} {ops : Array Oper} {rest : List Oper} {o : Oper} {a : Act} {Q : Exit → Act → World → Prop} (hgd : o.guard = none) (s x : Operand)
    (ho : o.op = .call { callee := .builtin .append, args := #[s, x], argTypes := #[22, 22] })
    (base : Nat) (v : Value) (xs : List Int) (hs : a.eval s = v) (hown : OwnInts W base v xs) (y : Int) (H : Nat) (hH : W.heap.size = H) (hx : a.eval x = .slice (some ⟨H, 0, none⟩) 1 1)
    (hlen : xs.length ≤ 1000000) (hb : base ≤ W.heap.size)
    (h : ∀ v' w', OwnInts w' base v' (xs ++ [y]) → W.grownBy w' v.ownBlock → (v'.ownBlock = v.ownBlock ∨ v'.ownBlock = some (W.heap.size + 1)) → wpList Try.prog ops Q rest (a.put o.dst v') w') :
    wpList Try.prog ops Q (o :: rest) a (W.alloc (.cells #[.int .i64 y] 3)) := by
  subst hH
  obtain ⟨i0, hi, hz0, hz1, hz2⟩ := info_parts infoInt
  refine wpList_append_own_at _ hgd s x _ ho base 3 i0 (.int .i64 0) 1 8 Try.underlying22 hi hz0 hz1 hz2 rfl (by decide) v xs.length (xs.map (Value.int .i64)) hs (World.ownsRow.alloc hown _)
    ⟨W.heap.size, 0, none⟩ 1 1 [.int .i64 y] hx rfl (cell_new1 W _ _) (by simp [Value.oneCell']) (by unfold maxLen; omega) (by omega) (by simp; omega) ?_
  intro v' w' h1 h2 _ h4
  refine h v' w' (own_snoc h1) ?_ (by simpa using h4)
  exact (World.grownBy_alloc W _ v.ownBlock).trans h2

theorem grown_cell {W W' : World} {base : Nat} {row : Option Nat} (hg : W.grownBy W' row) (hb : base ≤ W.heap.size) (hr : ∀ g, row = some g → base ≤ g) : ∀ b o, b < base → W'.cell? ⟨b, o, none⟩ = W.cell? ⟨b, o, none⟩ :=
  fun b o h => World.cell?_of_block (hg.block b (by omega) (fun e => by have := hr b e.symm; omega))

/-- the same in a region that draws -/
theorem step_push {W : World} {ops : Array Oper} {o : Oper} {a : Act} {K : Act → World → Prop} {Q : Exit → Act → World → Prop} {E : Prop} (hgd : o.guard = none) (s x : Operand)
    (ho : o.op = .call { callee := .builtin .append, args := #[s, x], argTypes := #[22, 22] })
    (base : Nat) (v : Value) (xs : List Int) (hs : a.eval s = v) (hown : OwnInts W base v xs) (y : Int) (H : Nat) (hH : W.heap.size = H) (hx : a.eval x = .slice (some ⟨H, 0, none⟩) 1 1)
    (hlen : xs.length ≤ 1000000) (hb : base ≤ W.heap.size)
    (h : ∀ v' w', OwnInts w' base v' (xs ++ [y]) → W.grownBy w' v.ownBlock → (v'.ownBlock = v.ownBlock ∨ v'.ownBlock = some (W.heap.size + 1)) → (∀ b o, b < base → w'.cell? ⟨b, o, none⟩ = W.cell? ⟨b, o, none⟩) → K (a.put o.dst v') w') :
    if Region.wanted o (yielded ops a.tmps) = true then Oper.wp Try.prog o a (W.alloc (.cells #[.int .i64 y] 3)) K Q else E := by
  subst hH
  obtain ⟨i0, hi, hz0, hz1, hz2⟩ := info_parts infoInt
  refine step_append_lies _ hgd s x _ ho base 3 i0 (.int .i64 0) 1 8 Try.underlying22 hi hz0 hz1 hz2 rfl (by decide) v xs.length (xs.map (Value.int .i64)) hs (World.ownsRow.alloc hown _)
    ⟨W.heap.size, 0, none⟩ 1 1 [.int .i64 y] hx rfl (cell_new1 W _ _) (by simp [Value.oneCell']) (by omega) (by unfold maxLen; omega) (by omega) (by simp; omega) (W.heap.size + 1) (by simp) ?_
  intro g cap w' h1 h2 h3 _
  have hg := (World.grownBy_alloc W (.cells #[.int .i64 y] 3) v.ownBlock).trans h2
  refine h _ w' (own_snoc h1) hg ?_ (grown_cell hg hb (fun g hg => (World.ownsRow.lt hown g hg).1))
  rcases h3 with h3 | h3
  · exact .inl (by rw [h3]; rfl)
  · exact .inr (by rw [h3]; rfl)

end Go.Proofs.Ytchjjcmlekknfaa

/- What the arguments of the statements hold: slices of ints. -/
import Derived.Test.YtchjjcmlekknfaaBase
import Derived.Deep.Slices
import Derived.ChangeSame
import Derived.ProofKit
namespace Go.Proofs.Ytchjjcmlekknfaa
open Go.ChangeShapes Go.WideShapes Go.RowKit Go.Deep
set_option linter.unusedVariables false
set_option linter.unusedSimpArgs false

section
variable {H : Type} {enc : TypeId × Value → H} {w : World} {base : Nat} {spare : Nat → Bool} {held : Bool}

theorem add_plain {b off : Nat} (i : Nat) : (⟨b, off, none⟩ : Addr).add i = ⟨b, off + i, none⟩ := by
  unfold Addr.add; split <;> simp_all
theorem cell_lt' {a : Addr} {v : Value} (h : w.cell? a = some v) : a.block < w.heap.size := by
  unfold World.cell? at h
  rcases Nat.lt_or_ge a.block w.heap.size with h1 | h1
  · exact h1
  · simp [Array.getElem?_eq_none h1] at h
theorem rowAt_of {a : Addr} {cs : List Value} (h : ∀ i (hi : i < cs.length), w.cell? (a.add i) = some cs[i]) : RowAt w (some a) cs := fun hne => by
  have hpos : 0 < cs.length := List.length_pos_iff.2 hne
  have h0 := h 0 hpos
  obtain ⟨b, off, spot⟩ := a
  cases spot with
  | some k =>
    exfalso
    unfold World.cell? at h0
    simp [Addr.add] at h0
    split at h0 <;> simp at h0
  | none =>
    refine ⟨b, off, rfl, ?_, fun i hi => ?_⟩
    · have := cell_lt' h0
      rwa [add_plain] at this
    · rw [← add_plain]; exact h i hi

theorem open_isInts {fuel : Nat} {v : Value} {x : DataW H × List MemPlace} (h : DataW.trod enc Try.prog w base spare held fuel 22 [v] = some x) :
    ∃ xs : List Int, IsInts w v xs ∧ xs.length ≤ 9223372036854775807 ∧ ∀ y ∈ xs, -9223372036854775808 ≤ y ∧ y ≤ 9223372036854775807 := by
  rcases open_ints Try.underlying22 Try.underlying3 (by kernel_rfl) h with ⟨hcs, _⟩ | ⟨x, l, c, zs, hcs, _, hl, hm, hz, _, hcell, hwz⟩
  · simp at hcs
    subst hcs
    exact ⟨[], IsInts.nil, by simp, by simp⟩
  · simp at hcs
    subst hcs
    unfold maxLen at hm
    have hlz : l ≤ zs.length := by rw [hz]; split <;> omega
    have hlen : (zs.take l).length = l := by simp; omega
    refine ⟨zs.take l, ⟨some x, c, by rw [hlen], rowAt_of fun i hi => ?_⟩, by omega, fun y hy => bounds_i64 (hwz y (List.mem_of_mem_take hy))⟩
    simp only [List.length_map, hlen] at hi
    rw [hcell i (by omega)]
    simp [List.getD_eq_getElem?_getD, List.getElem?_eq_getElem (show i < zs.length by omega)]
/-- the same, with the room behind -/
theorem open_isIntsC {fuel : Nat} {v : Value} {x : DataW H × List MemPlace} (h : DataW.trod enc Try.prog w base spare held fuel 22 [v] = some x) :
    ∃ xs : List Int, IsInts w v xs ∧ xs.length ≤ 9223372036854775807 ∧ (∀ y ∈ xs, -9223372036854775808 ≤ y ∧ y ≤ 9223372036854775807) ∧ ∀ A n c, v = .slice A n c → n ≤ c := by
  rcases open_ints Try.underlying22 Try.underlying3 (by kernel_rfl) h with ⟨hcs, _⟩ | ⟨x, l, c, zs, hcs, _, hl, hm, hz, _, hcell, hwz⟩
  · simp at hcs
    subst hcs
    exact ⟨[], IsInts.nil, by simp, by simp, fun A n c e => by injection e with e1 e2 e3; omega⟩
  · simp at hcs
    subst hcs
    unfold maxLen at hm
    have hlz : l ≤ zs.length := by rw [hz]; split <;> omega
    have hlen : (zs.take l).length = l := by simp; omega
    refine ⟨zs.take l, ⟨some x, c, by rw [hlen], rowAt_of fun i hi => ?_⟩, by omega, fun y hy => bounds_i64 (hwz y (List.mem_of_mem_take hy)), fun A n c' e => by injection e with e1 e2 e3; omega⟩
    simp only [List.length_map, hlen] at hi
    rw [hcell i (by omega)]
    simp [List.getD_eq_getElem?_getD, List.getElem?_eq_getElem (show i < zs.length by omega)]

end
end Go.Proofs.Ytchjjcmlekknfaa

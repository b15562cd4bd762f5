/- What the arguments of the statements hold: slices of ints, of lives, of words. -/
import Derived.Test.YtofllhbcediafaaWords
import Derived.Deep.Slices
import Derived.ChangeSame
import Derived.ProofKit
namespace Go.Proofs.Ytofllhbcediafaa
open Go.ChangeShapes Go.WideShapes Go.RowKit Go.Deep
set_option linter.unusedVariables false
set_option linter.unusedSimpArgs false

section
variable {H : Type} {enc : TypeId × Value → H} {w : World} {base : Nat} {spare : Nat → Bool} {held : Bool}

theorem add_plain {b off : Nat} (i : Nat) : (⟨b, off, none⟩ : Addr).add i = ⟨b, off + i, none⟩ := by
  unfold Addr.add; split <;> simp_all
theorem cell_lt' {a : Addr} {v : Value} (h : w.cell? a = some v) : a.block < w.heap.size := by
  unfold World.cell? at h
  rcases Nat.lt_or_ge a.block w.heap.size with h1 | h1
  · exact h1
  · simp [Array.getElem?_eq_none h1] at h
theorem rowAt_of {a : Addr} {cs : List Value} (h : ∀ i (hi : i < cs.length), w.cell? (a.add i) = some cs[i]) : RowAt w (some a) cs := fun hne => by
  have hpos : 0 < cs.length := List.length_pos_iff.2 hne
  have h0 := h 0 hpos
  obtain ⟨b, off, spot⟩ := a
  cases spot with
  | some k =>
    exfalso
    unfold World.cell? at h0
    simp [Addr.add] at h0
    split at h0 <;> simp at h0
  | none =>
    refine ⟨b, off, rfl, ?_, fun i hi => ?_⟩
    · have := cell_lt' h0
      rwa [add_plain] at this
    · rw [← add_plain]; exact h i hi

theorem open_isInts {fuel : Nat} {v : Value} {x : DataW H × List MemPlace} (h : DataW.trod enc Try.prog w base spare held fuel 23 [v] = some x) :
    ∃ xs : List Int, IsInts w v xs ∧ xs.length ≤ 9223372036854775807 ∧ ∀ y ∈ xs, -9223372036854775808 ≤ y ∧ y ≤ 9223372036854775807 := by
  rcases open_ints Try.underlying23 Try.underlying3 (by kernel_rfl) h with ⟨hcs, _⟩ | ⟨x, l, c, zs, hcs, _, hl, hm, hz, _, hcell, hwz⟩
  · simp at hcs
    subst hcs
    exact ⟨[], IsInts.nil, by simp, by simp⟩
  · simp at hcs
    subst hcs
    unfold maxLen at hm
    have hlz : l ≤ zs.length := by rw [hz]; split <;> omega
    have hlen : (zs.take l).length = l := by simp; omega
    refine ⟨zs.take l, ⟨some x, c, by rw [hlen], rowAt_of fun i hi => ?_⟩, by omega, fun y hy => bounds_i64 (hwz y (List.mem_of_mem_take hy))⟩
    simp only [List.length_map, hlen] at hi
    rw [hcell i (by omega)]
    simp [List.getD_eq_getElem?_getD, List.getElem?_eq_getElem (show i < zs.length by omega)]

theorem flat_get (x : List Pl.Life) (i : Nat) (h : i < (x.flatMap encL).length) : ∃ k, ∃ hk : k < x.length, (i = k * 2 ∧ (x.flatMap encL)[i] = .int .i64 x[k].1) ∨ (i = k * 2 + 1 ∧ (x.flatMap encL)[i] = .int .i64 x[k].2) := by
  have hl := flat_len x
  have hk : i / 2 < x.length := by omega
  obtain ⟨h1, h2⟩ := flat_at x (i / 2) hk
  refine ⟨i / 2, hk, ?_⟩
  rcases Nat.mod_two_eq_zero_or_one i with e | e
  · left
    have e2 : i / 2 * 2 = i := by omega
    rw [e2, List.getElem?_eq_getElem h] at h1
    exact ⟨e2.symm, Option.some.inj h1⟩
  · right
    have e2 : i / 2 * 2 + 1 = i := by omega
    rw [e2, List.getElem?_eq_getElem h] at h2
    exact ⟨e2.symm, Option.some.inj h2⟩

theorem open_life {n : Nat} {cs : List Value} {x : DataW H × List MemPlace} (h : DataW.trod enc Try.prog w base spare held n 39 cs = some x) : ∃ p : Pl.Life, cs = encL p := by
  obtain ⟨xs, m, _, _, hl, hxl, hf⟩ := DataW.trod_struct Try.underlying39 h
  rw [show Try.prog.cellsOf 39 = 2 by kernel_rfl] at hl
  have hxl2 : xs.length = 2 := hxl
  match cs, hl with
  | [a, b], _ =>
    have h0 : DataW.trod enc Try.prog w base spare held m 3 (([a, b].drop 0).take (Try.prog.cellsOf 3)) = xs[0]? := hf 0 _ rfl
    have h1 : DataW.trod enc Try.prog w base spare held m 3 (([a, b].drop 1).take (Try.prog.cellsOf 3)) = xs[1]? := hf 1 _ rfl
    rw [show Try.prog.cellsOf 3 = 1 by kernel_rfl] at h0 h1
    rw [List.getElem?_eq_getElem (by omega)] at h0 h1
    obtain ⟨p, hp, _, _⟩ := DataW.trod_int Try.underlying3 h0
    obtain ⟨q, hq, _, _⟩ := DataW.trod_int Try.underlying3 h1
    simp at hp hq
    exact ⟨(p, q), by rw [hp, hq]; rfl⟩

theorem open_isLives {fuel : Nat} {v : Value} {x : DataW H × List MemPlace} (h : DataW.trod enc Try.prog w base spare held fuel 37 [v] = some x) :
    ∃ l : List Pl.Life, IsLives w v l ∧ l.length ≤ 9223372036854775807 := by
  rcases open_slice Try.underlying37 h with ⟨hcs, _⟩ | ⟨a, len, cap, m, n, D, Pp, hcs, _, hl, hm, hmm, _, hi⟩
  · simp at hcs
    subst hcs
    exact ⟨[], IsLives.nil, by simp⟩
  · simp at hcs
    subst hcs
    unfold maxLen at hm
    rw [show Try.prog.cellsOf 39 = 2 by kernel_rfl] at hi
    have hlm : len ≤ m := by rw [hmm]; split <;> omega
    obtain ⟨f, hf⟩ := choose_lt (α := Pl.Life) (n := len) (p := fun i q => w.cell? (a.add (i * 2)) = some (.int .i64 q.1) ∧ w.cell? (a.add (i * 2 + 1)) = some (.int .i64 q.2)) (fun i hil => by
      obtain ⟨cs', hc, ht⟩ := hi i (by omega)
      obtain ⟨q, rfl⟩ := open_life ht
      obtain ⟨_, _, hat⟩ := World.cells?_some hc
      have c0 := hat 0 (by omega)
      have c1 := hat 1 (by omega)
      rw [Go.Deep.add_add] at c0 c1
      exact ⟨q, by simpa [encL] using c0, by simpa [encL] using c1⟩)
    have hlen : ((List.range len).map f).length = len := by simp
    refine ⟨(List.range len).map f, ⟨some a, cap, by rw [hlen], rowAt_of fun i hi => ?_⟩, by omega⟩
    obtain ⟨k, hk, h2⟩ := flat_get _ i hi
    rw [hlen] at hk
    obtain ⟨e1, e2⟩ := hf k hk
    rcases h2 with ⟨rfl, h2⟩ | ⟨rfl, h2⟩
    · rw [h2, e1]; simp
    · rw [h2, e2]; simp

theorem open_isWords {fuel : Nat} {v : Value} {x : DataW H × List MemPlace} (h : DataW.trod enc Try.prog w base spare held fuel 22 [v] = some x) :
    ∃ l : List (List Pl.Life), IsWords w v l ∧ l.length ≤ 9223372036854775807 := by
  rcases open_slice1 Try.underlying22 (by kernel_rfl) h with ⟨hcs, _⟩ | ⟨a, len, cap, m, n, V, D, Pp, hcs, _, hl, hm, hmm, _, hi⟩
  · simp at hcs
    subst hcs
    exact ⟨[], IsWords.nil, by simp⟩
  · simp at hcs
    subst hcs
    unfold maxLen at hm
    have hlm : len ≤ m := by rw [hmm]; split <;> omega
    obtain ⟨f, hf⟩ := choose_lt (α := List Pl.Life) (n := len) (p := fun i q => IsLives w (V i) q) (fun i hil => by
      obtain ⟨q, hq, _⟩ := open_isLives (hi i (by omega)).2
      exact ⟨q, hq⟩)
    have hlen : ((List.range len).map f).length = len := by simp
    have hlen2 : ((List.range len).map V).length = len := by simp
    refine ⟨(List.range len).map f, ⟨some a, cap, (List.range len).map V, by rw [hlen], by rw [hlen, hlen2], rowAt_of fun i h1 => ?_, fun i h1 h2 => ?_⟩, by omega⟩
    · rw [hlen2] at h1
      rw [(hi i (by omega)).1]; simp
    · rw [hlen] at h1
      simpa using hf i h1

end
end Go.Proofs.Ytofllhbcediafaa

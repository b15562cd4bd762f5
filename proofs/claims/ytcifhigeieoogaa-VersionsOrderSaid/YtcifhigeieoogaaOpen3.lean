/- What the arguments of the statements hold: slices of amendments, with the room behind. -/
import Derived.Test.YtcifhigeieoogaaOpen
namespace Go.Proofs.Ytcifhigeieoogaa
open Go.ChangeShapes Go.WideShapes Go.RowKit Go.Deep
set_option linter.unusedVariables false
set_option linter.unusedSimpArgs false
section
variable {H : Type} {enc : TypeId × Value → H} {w : World} {base : Nat} {spare : Nat → Bool} {held : Bool}
set_option maxHeartbeats 1000000 in
theorem open_isAsC {fuel : Nat} {v : Value} {x : DataW H × List MemPlace} (h : DataW.trod enc Try.prog w base spare held fuel 22 [v] = some x) :
    ∃ l : List Am, IsAs w v l ∧ l.length ≤ 9223372036854775807 ∧ ∀ A n c, v = .slice A n c → n ≤ c := by
  rcases open_slice Try.underlying22 h with ⟨hcs, _⟩ | ⟨a, len, cap, m, n, D, Pp, hcs, _, hl, hm, hmm, _, hi⟩
  · simp at hcs
    subst hcs
    exact ⟨[], IsAs.nil, by simp, fun A n c e => by injection e with e1 e2 e3; omega⟩
  · simp at hcs
    subst hcs
    unfold maxLen at hm
    rw [show Try.prog.cellsOf 27 = 6 by kernel_rfl] at hi
    have hlm : len ≤ m := by rw [hmm]; split <;> omega
    obtain ⟨f, hf⟩ := choose_lt (α := Am) (n := len) (p := fun i q => ∀ j, j < 6 → w.cell? (a.add (i * 6 + j)) = (encA q)[j]?) (fun i hil => by
      obtain ⟨cs', hc, ht⟩ := hi i (by omega)
      obtain ⟨q, rfl⟩ := open_am ht
      obtain ⟨_, _, hat⟩ := World.cells?_some hc
      refine ⟨q, fun j hj => ?_⟩
      have c := hat j (by omega)
      rw [Go.Deep.add_add] at c
      first | exact c | (rw [c]; first | rfl | simp))
    have hlen : ((List.range len).map f).length = len := by simp
    refine ⟨(List.range len).map f, ⟨some a, cap, by rw [hlen], rowAt_of fun i hi => ?_⟩, by omega, fun A n c' e => by injection e with e1 e2 e3; omega⟩
    have hl2 := flatA_len ((List.range len).map f)
    rw [hlen] at hl2
    have hk : i / 6 < len := by omega
    have e1 := hf (i / 6) hk (i % 6) (by omega)
    have e2 := flatA_at ((List.range len).map f) (i / 6) (i % 6) (by rw [hlen]; exact hk) (by omega)
    rw [show i / 6 * 6 + i % 6 = i by omega] at e1 e2
    rw [e1, ← List.getElem?_eq_getElem hi, e2]
    simp

end
end Go.Proofs.Ytcifhigeieoogaa

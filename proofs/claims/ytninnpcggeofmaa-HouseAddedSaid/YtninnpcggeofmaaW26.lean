/- Walk of the decision that chapter 35's examples are made of. -/
import Derived.Test.YtninnpcggeofmaaW25
namespace Go.Proofs.Ytninnpcggeofmaa
open Go.RowKit
set_option linter.unusedVariables false
set_option linter.unusedSimpArgs false
attribute [local go_sem] frozen_new

def strikeH (no known : Int) : Hh := ⟨no, 1, -1, 10, 20, -1, 15, 1099511627776, known, 0⟩
theorem strike_any (no known : Int) (w : World) : Calls Try.prog 35 #[.int .i64 no, .int .i64 known] w fun e w' => e = .returned (vH (strikeH no known)) ∧ Below w.heap.size w w' := by
  go_enter Try.func35, Try.ntmps35
  go_wp2_with (fail)
  refine ⟨rfl, vH (strikeH no known), by simp [results, Try.results35, go_sem, vH, strikeH], rfl, al1 w _⟩
theorem same_is {v u : Value} {xs ys : List Hh} {w : World} {b : Bool} (h : decide (xs = ys) = b) (hv : IsHs w v xs) (hu : IsHs w u ys) (hl : xs.length ≤ 9223372036854775807) (hl2 : ys.length ≤ 9223372036854775807) :
    Calls Try.prog 22 #[v, u] w fun e w' => e = .returned (.bool b) ∧ Below w.heap.size w w' := by
  subst h
  refine (same_any v u xs ys w hv hu hl hl2).mono ?_
  rintro e w' ⟨rfl, k, rfl⟩
  exact ⟨rfl, below_drewN (Below.refl _ _) k⟩
end Go.Proofs.Ytninnpcggeofmaa

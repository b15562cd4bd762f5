/- The walked statement PlanFewest in the form that its row asks. -/
import Derived.Test.YtofllhbcediafaaL3
namespace Go.Proofs.Ytofllhbcediafaa
open Go.RowKit

theorem PlanFewest_row (v u x : Value) (l : List (List Pl.Life)) (ds s : List Int) (w : World) (hv : IsWords w v l ∧ l.length ≤ 9223372036854775807)
    (hu : IsInts w u ds ∧ ds.length ≤ 9223372036854775807 ∧ ∀ y ∈ ds, -9223372036854775808 ≤ y ∧ y ≤ 9223372036854775807)
    (hx : IsInts w x s ∧ s.length ≤ 9223372036854775807 ∧ ∀ y ∈ s, -9223372036854775808 ≤ y ∧ y ≤ 9223372036854775807) :
    Calls Try.prog 5 #[v, u, x] w fun e w' => e = .returned (.bool true) ∧ Below w.heap.size w w' :=
  PlanFewest_any v u x l ds s w hv.1 hu.1 hx.1 hv.2 hu.2.1 hx.2.1

end Go.Proofs.Ytofllhbcediafaa

/- The walked statement PlanWhy in the form that its row asks. -/
import Derived.Test.YtofllhbcediafaaL2
namespace Go.Proofs.Ytofllhbcediafaa
open Go.RowKit

theorem PlanWhy_row (v u : Value) (l : List (List Pl.Life)) (ds : List Int) (w : World) (hv : IsWords w v l ∧ l.length ≤ 9223372036854775807)
    (hu : IsInts w u ds ∧ ds.length ≤ 9223372036854775807 ∧ ∀ y ∈ ds, -9223372036854775808 ≤ y ∧ y ≤ 9223372036854775807) :
    Calls Try.prog 6 #[v, u] w fun e w' => e = .returned (.bool true) ∧ Below w.heap.size w w' :=
  PlanWhy_any v u l ds w hv.1 hu.1 hv.2 hu.2.1

end Go.Proofs.Ytofllhbcediafaa

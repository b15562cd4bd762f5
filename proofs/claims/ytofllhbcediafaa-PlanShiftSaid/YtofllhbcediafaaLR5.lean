/- The walked statement PlanShift in the form that its row asks. -/
import Derived.Test.YtofllhbcediafaaL5
namespace Go.Proofs.Ytofllhbcediafaa
open Go.RowKit

theorem PlanShift_row (v u : Value) (m : Int) (l : List (List Pl.Life)) (ds : List Int) (w : World) (hv : IsWords w v l ∧ l.length ≤ 9223372036854775807)
    (hu : IsInts w u ds ∧ ds.length ≤ 9223372036854775807 ∧ ∀ y ∈ ds, -9223372036854775808 ≤ y ∧ y ≤ 9223372036854775807) (hm : (Lit.int .u32 m).wf = true) :
    Calls Try.prog 8 #[v, u, .int .u32 m] w fun e w' => e = .returned (.bool true) ∧ Below w.heap.size w w' := by
  have h2 := bounds_u32 hm
  obtain ⟨m, rfl⟩ := Int.eq_ofNat_of_zero_le h2.1
  exact PlanShift_any v u l ds m w hv.1 hu.1 hv.2 hu.2.1 (by omega)

end Go.Proofs.Ytofllhbcediafaa

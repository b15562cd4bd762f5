/- The walked statement VersionsOrder in the form that its row asks. -/
import Derived.Test.YtcifhigeieoogaaL6
import Derived.Test.YtcifhigeieoogaaOpen
namespace Go.Proofs.Ytcifhigeieoogaa
open Go.RowKit
set_option linter.unusedVariables false

theorem VersionsOrder_row (v u : Value) (key t k0 : Int) (l : List Am) (bs : List Int) (w : World) (hv : IsAs w v l ∧ l.length ≤ 9223372036854775807) (hu : IsU8 w u bs ∧ bs.length ≤ 9223372036854775807 ∧ ∀ y ∈ bs, 0 ≤ y ∧ y ≤ 255) (hkey : (Lit.int .i64 key).wf = true) (ht : (Lit.int .i64 t).wf = true) (hk0 : (Lit.int .i64 k0).wf = true) : Calls Try.prog 3 #[v, u, .int .i64 key, .int .i64 t, .int .i64 k0] w fun e w' => e = .returned (.bool true) ∧ Below w.heap.size w w' :=
  VersionsOrder_any hv.1 hu.1 hu.2.2 hv.2 hu.2.1
end Go.Proofs.Ytcifhigeieoogaa

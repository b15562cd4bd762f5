/- The walked statement VersionsSpec in the form that its row asks. -/
import Derived.Test.YtcifhigeieoogaaL5
import Derived.Test.YtcifhigeieoogaaOpen3
namespace Go.Proofs.Ytcifhigeieoogaa
open Go.RowKit
set_option linter.unusedVariables false

theorem VersionsSpec_row (v u : Value) (l : List Am) (x : Am) (w : World) (hv : IsAs w v l ∧ l.length ≤ 9223372036854775807 ∧ ∀ A n c, v = .slice A n c → n ≤ c) (hx : u = vA x) : Calls Try.prog 5 #[v, u] w fun e w' => e = .returned (.bool true) ∧ Below w.heap.size w w' := by
  subst hx
  exact VersionsSpec_any hv.1 hv.2.1 hv.2.2
end Go.Proofs.Ytcifhigeieoogaa

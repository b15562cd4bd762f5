/- The walked statement VersionsValueSpec in the form that its row asks. -/
import Derived.Test.YtcifhigeieoogaaL4
import Derived.Test.YtcifhigeieoogaaOpen
namespace Go.Proofs.Ytcifhigeieoogaa
open Go.RowKit
set_option linter.unusedVariables false

theorem VersionsValueSpec_row (v : Value) (key t k0 : Int) (l : List Am) (w : World) (hv : IsAs w v l ∧ l.length ≤ 9223372036854775807) (hkey : (Lit.int .i64 key).wf = true) (ht : (Lit.int .i64 t).wf = true) (hk0 : (Lit.int .i64 k0).wf = true) : Calls Try.prog 6 #[v, .int .i64 key, .int .i64 t, .int .i64 k0] w fun e w' => e = .returned (.bool true) ∧ Below w.heap.size w w' :=
  VersionsValueSpec_any hv.1 hv.2
end Go.Proofs.Ytcifhigeieoogaa

/- Walked statement in the form that its row asks. -/
import Derived.Test.YtimpnpdhhhbmgaaL6
import Derived.Test.YtimpnpdhhhbmgaaOpen
namespace Go.Proofs.Ytimpnpdhhhbmgaa
open Go.RowKit
set_option linter.unusedVariables false

theorem DiskHistory_row (v : Value) (z : Int) (ac : List Ac) (w : World) (hv : IsActs w v ac) (hz : (Lit.int .u8 z).wf = true) : Calls Try.prog 6 #[v, .int .u8 z] w fun e w' => e = .returned (.bool true) ∧ Below w.heap.size w w' := by
  rw [enc_u8 hz]
  exact DiskHistory_any hv
end Go.Proofs.Ytimpnpdhhhbmgaa

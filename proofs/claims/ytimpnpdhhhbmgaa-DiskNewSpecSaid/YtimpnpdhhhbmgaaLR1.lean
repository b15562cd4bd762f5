/- Walked statements in the form that their rows ask. -/
import Derived.Test.YtimpnpdhhhbmgaaL1
import Derived.Test.YtimpnpdhhhbmgaaOpen
namespace Go.Proofs.Ytimpnpdhhhbmgaa
open Go.RowKit
set_option linter.unusedVariables false

theorem DiskNewSpec_row (n : Int) (v : Value) (d : Dk) (w : World) (hn : (Lit.int .i64 n).wf = true) (hv : IsD w v d ∧ d.ss.length ≤ 9223372036854775807 ∧ d.ps.length ≤ 9223372036854775807) : Calls Try.prog 3 #[.int .i64 n, v] w fun e w' => e = .returned (.bool true) ∧ Below w.heap.size w w' :=
  DiskNewSpec_any hv.1 hv.2.1 hv.2.2
end Go.Proofs.Ytimpnpdhhhbmgaa

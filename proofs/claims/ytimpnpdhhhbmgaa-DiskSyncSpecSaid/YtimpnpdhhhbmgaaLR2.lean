/- Walked statements in the form that their rows ask. -/
import Derived.Test.YtimpnpdhhhbmgaaL2
import Derived.Test.YtimpnpdhhhbmgaaOpen
namespace Go.Proofs.Ytimpnpdhhhbmgaa
open Go.RowKit
set_option linter.unusedVariables false

theorem DiskWriteSpec_row (v : Value) (a : Int) (u : Value) (d : Dk) (b : By) (w : World) (hv : IsD w v d ∧ d.ss.length ≤ 9223372036854775807 ∧ d.ps.length ≤ 9223372036854775807) (ha : (Lit.int .i64 a).wf = true) (hu : IsBytes w u b) : Calls Try.prog 4 #[v, .int .i64 a, u] w fun e w' => e = .returned (.bool true) ∧ Below w.heap.size w w' :=
  DiskWriteSpec_any hv.1 hv.2 hu
theorem DiskSyncSpec_row (v : Value) (l : Int) (d : Dk) (w : World) (hv : IsD w v d ∧ d.ss.length ≤ 9223372036854775807 ∧ d.ps.length ≤ 9223372036854775807) (ha : (Lit.int .i64 l).wf = true) : Calls Try.prog 5 #[v, .int .i64 l] w fun e w' => e = .returned (.bool true) ∧ Below w.heap.size w w' :=
  DiskSyncSpec_any hv.1 hv.2
end Go.Proofs.Ytimpnpdhhhbmgaa

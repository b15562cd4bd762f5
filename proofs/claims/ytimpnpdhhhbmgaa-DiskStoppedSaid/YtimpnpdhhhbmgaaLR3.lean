/- Walked statements in the form that their rows ask. -/
import Derived.Test.YtimpnpdhhhbmgaaL3
import Derived.Test.YtimpnpdhhhbmgaaOpen
namespace Go.Proofs.Ytimpnpdhhhbmgaa
open Go.RowKit
set_option linter.unusedVariables false

theorem DiskStopped_row (v : Value) (a l : Int) (u : Value) (d : Dk) (b : By) (w : World) (hv : IsD w v d ∧ d.ss.length ≤ 9223372036854775807 ∧ d.ps.length ≤ 9223372036854775807) (ha : (Lit.int .i64 a).wf = true) (hl : (Lit.int .i64 l).wf = true) (hu : IsBytes w u b) : Calls Try.prog 9 #[v, .int .i64 a, .int .i64 l, u] w fun e w' => e = .returned (.bool true) ∧ Below w.heap.size w w' :=
  DiskStopped_any hv.1 hv.2 hu
end Go.Proofs.Ytimpnpdhhhbmgaa

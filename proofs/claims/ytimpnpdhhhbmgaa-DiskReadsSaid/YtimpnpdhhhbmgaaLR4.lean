/- Walked statements in the form that their rows ask. -/
import Derived.Test.YtimpnpdhhhbmgaaL4
import Derived.Test.YtimpnpdhhhbmgaaOpen
namespace Go.Proofs.Ytimpnpdhhhbmgaa
open Go.RowKit
set_option linter.unusedVariables false

theorem DiskReads_row (v : Value) (a o : Int) (u1 u2 : Value) (d : Dk) (b c : By) (w : World) (hv : IsD w v d ∧ d.ss.length ≤ 9223372036854775807 ∧ d.ps.length ≤ 9223372036854775807) (ha : (Lit.int .i64 a).wf = true) (ho : (Lit.int .i64 o).wf = true) (hu1 : IsBytes w u1 b) (hu2 : IsBytes w u2 c) : Calls Try.prog 7 #[v, .int .i64 a, .int .i64 o, u1, u2] w fun e w' => e = .returned (.bool true) ∧ Below w.heap.size w w' :=
  DiskReads_any hv.1 hv.2 hu1 hu2
end Go.Proofs.Ytimpnpdhhhbmgaa

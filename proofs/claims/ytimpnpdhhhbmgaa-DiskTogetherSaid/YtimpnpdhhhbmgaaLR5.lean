/- Walked statements in the form that their rows ask. -/
import Derived.Test.YtimpnpdhhhbmgaaL5
import Derived.Test.YtimpnpdhhhbmgaaOpen
namespace Go.Proofs.Ytimpnpdhhhbmgaa
open Go.RowKit
set_option linter.unusedVariables false

theorem DiskTogether_row (v u : Value) (d : Dk) (ac : List Ac) (w : World) (hv : IsD w v d ∧ d.ss.length ≤ 9223372036854775807 ∧ d.ps.length ≤ 9223372036854775807) (hu : IsActs w u ac) : Calls Try.prog 8 #[v, u] w fun e w' => e = .returned (.bool true) ∧ Below w.heap.size w w' :=
  DiskTogether_any hv.1 hv.2 hu
end Go.Proofs.Ytimpnpdhhhbmgaa

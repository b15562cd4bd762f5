/- Walked statements in the form that their rows ask. -/
import Derived.Test.YtkcnanclpkongaaL1
import Derived.Test.YtkcnanclpkongaaOpen
namespace Go.Proofs.Ytkcnanclpkongaa
open Go.RowKit
set_option linter.unusedVariables false

theorem JournalOpenSpec_row (v : Value) (d : Dk) (w : World) (hv : IsD w v d ∧ d.ss.length ≤ 9223372036854775807 ∧ d.ps.length ≤ 9223372036854775807) : Calls Try.prog 3 #[v] w fun e w' => e = .returned (.bool true) ∧ Below w.heap.size w w' :=
  JournalOpenSpec_any hv.1 hv.2.1 hv.2.2
end Go.Proofs.Ytkcnanclpkongaa

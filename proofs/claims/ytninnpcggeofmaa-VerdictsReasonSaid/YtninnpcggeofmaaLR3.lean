/- The walked statement VerdictsReason in the form that its row asks. -/
import Derived.Test.YtninnpcggeofmaaL2
import Derived.Test.YtninnpcggeofmaaOpen2
namespace Go.Proofs.Ytninnpcggeofmaa
open Go.RowKit
set_option linter.unusedVariables false

theorem VerdictsReason_row (v u : Value) (l : List Hh) (q : Hh.Qq) (w : World) (hv : IsHs w v l ∧ l.length ≤ 9223372036854775807) (hu : u = askV q) : Calls Try.prog 9 #[v, u] w fun e w' => e = .returned (.bool true) ∧ Below w.heap.size w w' := by
  subst hu
  exact VerdictsReason_any v l q w hv.1 hv.2

end Go.Proofs.Ytninnpcggeofmaa

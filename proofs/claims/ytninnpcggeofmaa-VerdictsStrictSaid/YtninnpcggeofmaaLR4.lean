/- The walked statement VerdictsStrict in the form that its row asks. -/
import Derived.Test.YtninnpcggeofmaaL3
import Derived.Test.YtninnpcggeofmaaOpen2
import Derived.Test.YtninnpcggeofmaaOpen3
namespace Go.Proofs.Ytninnpcggeofmaa
open Go.RowKit
set_option linter.unusedVariables false

theorem VerdictsStrict_row (v u : Value) (l : List Hh) (q : Hh.Qq) (w : World) (hv : IsHs w v l ∧ l.length ≤ 9223372036854775807 ∧ ∀ A n c, v = .slice A n c → n ≤ c) (hu : u = askV q) : Calls Try.prog 10 #[v, u] w fun e w' => e = .returned (.bool true) ∧ Below w.heap.size w w' := by
  subst hu
  exact VerdictsStrict_any v l q w hv.1 hv.2.1 hv.2.2

end Go.Proofs.Ytninnpcggeofmaa

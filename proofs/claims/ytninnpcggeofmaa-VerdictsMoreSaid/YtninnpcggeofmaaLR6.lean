/- The walked statement VerdictsMore in the form that its row asks. -/
import Derived.Test.YtninnpcggeofmaaL5
import Derived.Test.YtninnpcggeofmaaOpen2
import Derived.Test.YtninnpcggeofmaaOpen4
namespace Go.Proofs.Ytninnpcggeofmaa
open Go.RowKit
set_option linter.unusedVariables false

theorem VerdictsMore_row (v u1 u2 : Value) (l : List Hh) (x : Hh) (q : Hh.Qq) (w : World) (hv : IsHs w v l ∧ l.length ≤ 9223372036854775807) (h1 : u1 = vH x) (h2 : u2 = askV q) : Calls Try.prog 13 #[v, u1, u2] w fun e w' => e = .returned (.bool true) ∧ Below w.heap.size w w' := by
  subst h1 h2
  exact VerdictsMore_any v l x q w hv.1 hv.2

end Go.Proofs.Ytninnpcggeofmaa

/- The walked statement HouseAdded in the form that its row asks. -/
import Derived.Test.YtninnpcggeofmaaL9
import Derived.Test.YtninnpcggeofmaaOpen3
import Derived.Test.YtninnpcggeofmaaOpen4
namespace Go.Proofs.Ytninnpcggeofmaa
open Go.RowKit
set_option linter.unusedVariables false

theorem HouseAdded_row (v u1 u2 : Value) (t : Int) (l : List Hh) (a b : Hh) (w : World) (hv : IsHs w v l ∧ l.length ≤ 9223372036854775807 ∧ ∀ A n c, v = .slice A n c → n ≤ c) (h1 : u1 = vH a) (h2 : u2 = vH b) (ht : (Lit.int .i64 t).wf = true) : Calls Try.prog 7 #[v, u1, u2, .int .i64 t] w fun e w' => e = .returned (.bool true) ∧ Below w.heap.size w w' := by
  subst h1 h2
  exact HouseAdded_any v l a b t w hv.1 hv.2.1

end Go.Proofs.Ytninnpcggeofmaa

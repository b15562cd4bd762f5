/- The walked statement HouseEnds in the form that its row asks. -/
import Derived.Test.YtninnpcggeofmaaL8
import Derived.Test.YtninnpcggeofmaaOpen4
namespace Go.Proofs.Ytninnpcggeofmaa
open Go.RowKit
set_option linter.unusedVariables false

theorem HouseEnds_row (u : Value) (spk lang : Int) (x : Hh) (w : World) (hu : u = vH x) (h1 : (Lit.int .i64 spk).wf = true) (h2 : (Lit.int .i64 lang).wf = true) : Calls Try.prog 6 #[u, .int .i64 spk, .int .i64 lang] w fun e w' => e = .returned (.bool true) ∧ Below w.heap.size w w' := by
  subst hu
  exact HouseEnds_any x spk lang w

end Go.Proofs.Ytninnpcggeofmaa

/- Walked statements in the form that their rows ask. -/
import Derived.Test.YtkcnanclpkongaaL2
import Derived.Test.YtkcnanclpkongaaOpen2
namespace Go.Proofs.Ytkcnanclpkongaa
open Go.RowKit
set_option linter.unusedVariables false

theorem JournalAppendSpec_row (v u : Value) (j : Jl) (b : By) (w : World) (hv : IsJ w v j ∧ j.rs.length ≤ 5864062014634 ∧ ∀ k (hk : k < j.rs.length), j.rs[k].length ≤ 140737488351232) (hu : IsBytes w u b) : Calls Try.prog 4 #[v, u] w fun e w' => e = .returned (.bool true) ∧ Below w.heap.size w w' :=
  JournalAppendSpec_any hv.1 hv.2.1 hu
end Go.Proofs.Ytkcnanclpkongaa

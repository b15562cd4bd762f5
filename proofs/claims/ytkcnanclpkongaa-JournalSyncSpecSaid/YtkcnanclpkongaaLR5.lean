/- Walked statements in the form that their rows ask. -/
import Derived.Test.YtkcnanclpkongaaL5
import Derived.Test.YtkcnanclpkongaaOpen2
namespace Go.Proofs.Ytkcnanclpkongaa
open Go.RowKit
set_option linter.unusedVariables false

theorem JournalSyncSpec_row (v u : Value) (j : Jl) (d : Dk) (w : World) (hv : IsJ w v j ∧ j.rs.length ≤ 5864062014634 ∧ ∀ k (hk : k < j.rs.length), j.rs[k].length ≤ 140737488351232) (hu : IsD w u d ∧ d.ss.length ≤ 9223372036854775807 ∧ d.ps.length ≤ 9223372036854775807) :
    Calls Try.prog 5 #[v, u] w fun e w' => e = .returned (.bool true) ∧ Below w.heap.size w w' :=
  JournalSyncSpec_any hv.1 hv.2 hu.1 hu.2.1 hu.2.2
end Go.Proofs.Ytkcnanclpkongaa

/- Walked statements in the form that their rows ask. -/
import Derived.Test.YtkcnanclpkongaaL3
import Derived.Test.YtkcnanclpkongaaOpen3
namespace Go.Proofs.Ytkcnanclpkongaa
open Go.RowKit
set_option linter.unusedVariables false

theorem JournalRoom_row (v u : Value) (j : Jl) (b : By) (w : World) (n : Nat) (hn : n ≤ 1048576) (hv : IsJ w v j ∧ Jn.fewN j.rs ≤ n) (hu : IsBytes w u b) : Calls Try.prog 6 #[v, u] w fun e w' => e = .returned (.bool true) ∧ Below w.heap.size w w' :=
  JournalRoom_any hv.1 (by have := hv.2; omega) hu
end Go.Proofs.Ytkcnanclpkongaa

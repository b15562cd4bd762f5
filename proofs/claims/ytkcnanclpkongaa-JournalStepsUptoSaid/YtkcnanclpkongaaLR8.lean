/- Walked statements in the form that their rows ask. -/
import Derived.Test.YtkcnanclpkongaaL8
import Derived.Test.YtkcnanclpkongaaOpen3
namespace Go.Proofs.Ytkcnanclpkongaa
open Go.RowKit
set_option linter.unusedVariables false

theorem JournalSteps_row (u v : Value) (ra rb : List By) (w : World) (n : Nat) (hn : n ≤ 1048576) (m : Nat) (hm : m ≤ 1048576) (hu : IsBs w u ra ∧ Jn.fewN ra ≤ n) (hv : IsBs w v rb ∧ Jn.fewN rb ≤ m) : Calls Try.prog 8 #[u, v] w fun e w' => e = .returned (.bool true) ∧ Below w.heap.size w w' := by
  have h1 := Jn.fewN_ge ra
  have h2 := Jn.fewN_ge rb
  have h3 := hu.2
  have h4 := hv.2
  exact JournalSteps_any hu.1 hv.1 (by omega) (fun k h => by have := Jn.fewN_at h; omega) (fun k h => by have := Jn.fewN_at h; omega)
end Go.Proofs.Ytkcnanclpkongaa

/- Walked statements in the form that their rows ask. -/
import Derived.Test.YtkcnanclpkongaaL9
import Derived.Test.YtkcnanclpkongaaOpen4
import Derived.OpenShut
namespace Go.Proofs.Ytkcnanclpkongaa
open Go.RowKit
set_option linter.unusedVariables false

theorem JournalSurvives_row (sc : Int) (u : Value) (cs : List Cr) (w : World) (h1 : (Lit.int .u8 sc).wf = true) (hu : IsCs w u cs ∧ (∀ p ∈ cs, (0 ≤ p.left ∧ p.left ≤ 255) ∧ p.recs.length ≤ 5864062014634 ∧ ∀ k (hk : k < p.recs.length), p.recs[k].length ≤ 140737488351232) ∧ cs.length ≤ 9223372036854775807) :
    Calls Try.prog 9 #[.int .u8 sc, u] w fun e w' => e = .returned (.bool true) ∧ Below w.heap.size w w' := by
  have b1 := bounds_u8 h1
  exact JournalSurvives_any hu.1 hu.2.1 hu.2.2 (by omega)
end Go.Proofs.Ytkcnanclpkongaa

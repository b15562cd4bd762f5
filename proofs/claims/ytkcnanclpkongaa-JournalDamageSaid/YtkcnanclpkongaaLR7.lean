/- Walked statements in the form that their rows ask. -/
import Derived.Test.YtkcnanclpkongaaL7
import Derived.Test.YtkcnanclpkongaaOpen2
import Derived.OpenShut
namespace Go.Proofs.Ytkcnanclpkongaa
open Go.RowKit
set_option linter.unusedVariables false

theorem JournalDamage_row (u : Value) (sec at0 by0 : Int) (rs : List By) (w : World) (hu : IsBs w u rs ∧ rs.length ≤ 5864062014634 ∧ ∀ k (hk : k < rs.length), rs[k].length ≤ 140737488351232) (h1 : (Lit.int .i64 sec).wf = true) (h2 : (Lit.int .i64 at0).wf = true) (h3 : (Lit.int .u8 by0).wf = true) :
    Calls Try.prog 7 #[u, .int .i64 sec, .int .i64 at0, .int .u8 by0] w fun e w' => e = .returned (.bool true) ∧ Below w.heap.size w w' := by
  have b1 := bounds_i64 h1
  have b2 := bounds_i64 h2
  have b3 := bounds_u8 h3
  exact JournalDamage_any hu.1 hu.2.1 hu.2.2 (by omega) (by omega) (by omega)
end Go.Proofs.Ytkcnanclpkongaa

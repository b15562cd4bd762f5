/- The walked statement BreaksLeast in the form that its row asks. -/
import Derived.Test.YtdcndhfjfllehaaL2
namespace Go.Proofs.Ytdcndhfjfllehaa
open Go.RowKit
set_option linter.unusedVariables false

theorem BreaksLeast_row (v : Value) (sp : Int) (rm : Int) (u : Value) (xs es : List Int) (w : World) (hv : IsInts w v xs ∧ xs.length ≤ 9223372036854775807 ∧ ∀ y ∈ xs, -9223372036854775808 ≤ y ∧ y ≤ 9223372036854775807) (hsp : (Lit.int .i64 sp).wf = true) (hrm : (Lit.int .i64 rm).wf = true) (hu : IsInts w u es ∧ es.length ≤ 9223372036854775807 ∧ ∀ y ∈ es, -9223372036854775808 ≤ y ∧ y ≤ 9223372036854775807) : Calls Try.prog 5 #[v, .int .i64 sp, .int .i64 rm, u] w fun e w' => e = .returned (.bool true) ∧ Below w.heap.size w w' :=
  BreaksLeast_any v u xs es sp rm w hv.1 hv.2.1 hu.1 hu.2.1

end Go.Proofs.Ytdcndhfjfllehaa

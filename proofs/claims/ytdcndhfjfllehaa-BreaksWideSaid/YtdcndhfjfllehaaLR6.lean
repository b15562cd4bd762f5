/- The walked statement BreaksWide in the form that its row asks. -/
import Derived.Test.YtdcndhfjfllehaaL5
namespace Go.Proofs.Ytdcndhfjfllehaa
open Go.RowKit
set_option linter.unusedVariables false

theorem BreaksWide_row (v : Value) (sp : Int) (rm : Int) (xs : List Int) (w : World) (hv : IsInts w v xs ∧ xs.length ≤ 9223372036854775807 ∧ ∀ y ∈ xs, -9223372036854775808 ≤ y ∧ y ≤ 9223372036854775807) (hsp : (Lit.int .i64 sp).wf = true) (hrm : (Lit.int .i64 rm).wf = true) : Calls Try.prog 8 #[v, .int .i64 sp, .int .i64 rm] w fun e w' => e = .returned (.bool true) ∧ Below w.heap.size w w' :=
  BreaksWide_any v xs sp rm w hv.1 hv.2.1

end Go.Proofs.Ytdcndhfjfllehaa

/- Walked statements in the form that their rows ask. -/
import Derived.Test.YtchjjcmlekknfaaL3
namespace Go.Proofs.Ytchjjcmlekknfaa
open Go.RowKit
set_option linter.unusedVariables false

theorem ScreensEarly_row (v u : Value) (m f : Int) (z : Value) (r d ps : List Int) (w : World) (hv : IsInts w v r ∧ r.length ≤ 9223372036854775807 ∧ ∀ y ∈ r, -9223372036854775808 ≤ y ∧ y ≤ 9223372036854775807) (hu : IsInts w u d ∧ d.length ≤ 9223372036854775807 ∧ ∀ y ∈ d, -9223372036854775808 ≤ y ∧ y ≤ 9223372036854775807) (hm : (Lit.int .i64 m).wf = true) (hf : (Lit.int .i64 f).wf = true) (hz : IsU8 w z ps ∧ ps.length ≤ 9223372036854775807 ∧ ∀ y ∈ ps, 0 ≤ y ∧ y ≤ 255) : Calls Try.prog 5 #[v, u, .int .i64 m, .int .i64 f, z] w fun e w' => e = .returned (.bool true) ∧ Below w.heap.size w w' :=
  ScreensEarly_any v u z r d ps m f w hv.1 hu.1 hv.2.1 hu.2.1 hz.1 hz.2.1 hz.2.2
end Go.Proofs.Ytchjjcmlekknfaa

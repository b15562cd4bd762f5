/- Walked statements in the form that their rows ask. -/
import Derived.Test.YtchjjcmlekknfaaL2
namespace Go.Proofs.Ytchjjcmlekknfaa
open Go.RowKit
set_option linter.unusedVariables false

theorem ScreensSound_row (v u : Value) (m f : Int) (z y : Value) (r d es h : List Int) (w : World) (hv : IsInts w v r ∧ r.length ≤ 9223372036854775807 ∧ ∀ y ∈ r, -9223372036854775808 ≤ y ∧ y ≤ 9223372036854775807) (hu : IsInts w u d ∧ d.length ≤ 9223372036854775807 ∧ ∀ y ∈ d, -9223372036854775808 ≤ y ∧ y ≤ 9223372036854775807) (hm : (Lit.int .i64 m).wf = true) (hf : (Lit.int .i64 f).wf = true) (hz : IsInts w z es ∧ es.length ≤ 9223372036854775807 ∧ ∀ y ∈ es, -9223372036854775808 ≤ y ∧ y ≤ 9223372036854775807) (hy : IsInts w y h ∧ h.length ≤ 9223372036854775807 ∧ ∀ y ∈ h, -9223372036854775808 ≤ y ∧ y ≤ 9223372036854775807) : Calls Try.prog 6 #[v, u, .int .i64 m, .int .i64 f, z, y] w fun e w' => e = .returned (.bool true) ∧ Below w.heap.size w w' :=
  ScreensSound_any v u z y r d es h m f w hv.1 hu.1 hv.2.1 hu.2.1 hz.1 hy.1 hz.2.1 hy.2.1
end Go.Proofs.Ytchjjcmlekknfaa

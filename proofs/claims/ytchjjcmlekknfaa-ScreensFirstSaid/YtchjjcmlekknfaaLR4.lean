/- Walked statements in the form that their rows ask. -/
import Derived.Test.YtchjjcmlekknfaaL4
namespace Go.Proofs.Ytchjjcmlekknfaa
open Go.RowKit
set_option linter.unusedVariables false

theorem ScreensFirst_row (v u : Value) (m f : Int) (r d : List Int) (w : World) (hv : IsInts w v r ∧ r.length ≤ 9223372036854775807 ∧ (∀ y ∈ r, -9223372036854775808 ≤ y ∧ y ≤ 9223372036854775807) ∧ ∀ A n c, v = .slice A n c → n ≤ c) (hu : IsInts w u d ∧ d.length ≤ 9223372036854775807 ∧ (∀ y ∈ d, -9223372036854775808 ≤ y ∧ y ≤ 9223372036854775807) ∧ ∀ A n c, u = .slice A n c → n ≤ c) (hm : (Lit.int .i64 m).wf = true) (hf : (Lit.int .i64 f).wf = true) : Calls Try.prog 8 #[v, u, .int .i64 m, .int .i64 f] w fun e w' => e = .returned (.bool true) ∧ Below w.heap.size w w' :=
  ScreensFirst_any v u r d m f w hv.1 hu.1 hv.2.1 hu.2.1 hv.2.2.2 hu.2.2.2
end Go.Proofs.Ytchjjcmlekknfaa

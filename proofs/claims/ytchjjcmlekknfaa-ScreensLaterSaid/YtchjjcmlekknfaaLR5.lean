/- Walked statements in the form that their rows ask. -/
import Derived.Test.YtchjjcmlekknfaaL5
namespace Go.Proofs.Ytchjjcmlekknfaa
open Go.RowKit
set_option linter.unusedVariables false

theorem u8_bd {a : Int} (ha : (Lit.int .u8 a).wf = true) : 0 ≤ a ∧ a ≤ 255 := by
  have h5 : IntKind.u8.min ≤ a ∧ a ≤ IntKind.u8.max := by simpa [Lit.wf] using ha
  have h6 : IntKind.u8.min = 0 := by rfl
  have h7 : IntKind.u8.max = 255 := by rfl
  omega
theorem u16_bd {a : Int} (ha : (Lit.int .u16 a).wf = true) : 0 ≤ a ∧ a ≤ 65535 := by
  have h5 : IntKind.u16.min ≤ a ∧ a ≤ IntKind.u16.max := by simpa [Lit.wf] using ha
  have h6 : IntKind.u16.min = 0 := by rfl
  have h7 : IntKind.u16.max = 65535 := by rfl
  omega
theorem ScreensLater_row (v u : Value) (m f a b : Int) (r d : List Int) (w : World) (hv : IsInts w v r ∧ r.length ≤ 9223372036854775807 ∧ ∀ y ∈ r, -9223372036854775808 ≤ y ∧ y ≤ 9223372036854775807) (hu : IsInts w u d ∧ d.length ≤ 9223372036854775807 ∧ ∀ y ∈ d, -9223372036854775808 ≤ y ∧ y ≤ 9223372036854775807) (hm : (Lit.int .i64 m).wf = true) (hf : (Lit.int .i64 f).wf = true) (ha : (Lit.int .u8 a).wf = true) (hb : (Lit.int .u16 b).wf = true) : Calls Try.prog 7 #[v, u, .int .i64 m, .int .i64 f, .int .u8 a, .int .u16 b] w fun e w' => e = .returned (.bool true) ∧ Below w.heap.size w w' :=
  ScreensLater_any v u r d m f a b w hv.1 hu.1 hv.2.1 hu.2.1 (u8_bd ha) (u16_bd hb)
end Go.Proofs.Ytchjjcmlekknfaa

/- The walked statement CodecDifferent in the form that its row asks. -/
import Derived.Test.YtnnddmhimnekaaaL6
namespace Go.Proofs.Ytnnddmhimnekaaa
open Go.RowKit

theorem CodecDifferent_row (x y : Value) (v u : Cd.Vl) (w : World) (hv : IsV Any w x v ∧ Cd.raw v) (hu : IsV Any w y u ∧ Cd.raw u) : Calls Try.prog 7 #[x, y] w fun e w' => e = .returned (.bool true) ∧ Below w.heap.size w w' :=
  CodecDifferent_any x y v u w hv.1 hv.2 hu.1 hu.2

end Go.Proofs.Ytnnddmhimnekaaa

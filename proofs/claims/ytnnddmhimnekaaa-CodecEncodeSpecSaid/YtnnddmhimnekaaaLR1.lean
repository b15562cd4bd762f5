/- The walked statement CodecEncodeSpec in the form that its row asks. -/
import Derived.Test.YtnnddmhimnekaaaL1
namespace Go.Proofs.Ytnnddmhimnekaaa
open Go.RowKit

theorem CodecEncodeSpec_row (x : Value) (v : Cd.Vl) (w : World) (hv : IsV Any w x v ∧ Cd.raw v) : Calls Try.prog 3 #[x] w fun e w' => e = .returned (.bool true) ∧ Below w.heap.size w w' :=
  CodecEncodeSpec_any x v w hv.1 hv.2

end Go.Proofs.Ytnnddmhimnekaaa

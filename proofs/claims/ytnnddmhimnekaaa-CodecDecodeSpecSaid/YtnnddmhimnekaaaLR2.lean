/- The walked statement CodecDecodeSpec in the form that its row asks. -/
import Derived.Test.YtnnddmhimnekaaaL2
namespace Go.Proofs.Ytnnddmhimnekaaa
open Go.RowKit

theorem CodecDecodeSpec_row (x : Value) (bs : List UInt8) (w : World) (hv : Inn w x bs ∧ bs.length ≤ 9223372036854775807) : Calls Try.prog 4 #[x] w fun e w' => e = .returned (.bool true) ∧ Below w.heap.size w w' :=
  CodecDecodeSpec_any x bs w hv.1 hv.2

end Go.Proofs.Ytnnddmhimnekaaa

/- The walked statement CodecRoundTrip in the form that its row asks. -/
import Derived.Test.YtnnddmhimnekaaaL5
namespace Go.Proofs.Ytnnddmhimnekaaa
open Go.RowKit

theorem CodecRoundTrip_row (x y : Value) (v : Cd.Vl) (bs : List UInt8) (w : World) (hv : IsV Any w x v ∧ Cd.raw v) (hy : Inn w y bs ∧ bs.length ≤ 9223372036854775807) : Calls Try.prog 6 #[x, y] w fun e w' => e = .returned (.bool true) ∧ Below w.heap.size w w' :=
  CodecRoundTrip_any x y v bs w hv.1 hv.2 hy.1 hy.2

end Go.Proofs.Ytnnddmhimnekaaa

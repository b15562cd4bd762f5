/- The walked statement CodecLists in the form that its row asks. -/
import Derived.Test.YtnnddmhimnekaaaL7
namespace Go.Proofs.Ytnnddmhimnekaaa
open Go.RowKit

theorem CodecLists_row (x : Value) (l : List Cd.Vl) (w : World) (hv : IsVs Any w x l ∧ (∀ y ∈ l, Cd.raw y) ∧ l.length ≤ 9223372036854775807) : Calls Try.prog 8 #[x] w fun e w' => e = .returned (.bool true) ∧ Below w.heap.size w w' :=
  CodecLists_any x l w hv.1 hv.2.1 hv.2.2

end Go.Proofs.Ytnnddmhimnekaaa

/- The walked statement CodecNumbers in the form that its row asks. -/
import Derived.Test.YtnnddmhimnekaaaL4
import Derived.ProofKit
namespace Go.Proofs.Ytnnddmhimnekaaa
open Go.RowKit

theorem CodecNumbers_row (a b : Int) (w : World) (h1 : (Lit.int .i64 a).wf = true) (h2 : (Lit.int .i64 b).wf = true) : Calls Try.prog 9 #[.int .i64 a, .int .i64 b] w fun e w' => e = .returned (.bool true) ∧ Below w.heap.size w w' :=
  CodecNumbers_any a b w (bounds_i64 h1) (bounds_i64 h2)

end Go.Proofs.Ytnnddmhimnekaaa

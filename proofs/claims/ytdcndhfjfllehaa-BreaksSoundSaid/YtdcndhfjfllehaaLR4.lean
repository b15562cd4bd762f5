/- The walked statement BreaksSound in the form that its row asks. -/
import Derived.Test.YtdcndhfjfllehaaL3
namespace Go.Proofs.Ytdcndhfjfllehaa
open Go.RowKit
set_option linter.unusedVariables false

theorem BreaksSound_row (v : Value) (sp : Int) (rm : Int) (u : Value) (t : Value) (o : Value) (xs es h os : List Int) (w : World) (hv : IsInts w v xs ∧ xs.length ≤ 9223372036854775807 ∧ ∀ y ∈ xs, -9223372036854775808 ≤ y ∧ y ≤ 9223372036854775807) (hsp : (Lit.int .i64 sp).wf = true) (hrm : (Lit.int .i64 rm).wf = true) (hu : IsInts w u es ∧ es.length ≤ 9223372036854775807 ∧ ∀ y ∈ es, -9223372036854775808 ≤ y ∧ y ≤ 9223372036854775807) (ht : IsInts w t h ∧ h.length ≤ 9223372036854775807 ∧ ∀ y ∈ h, -9223372036854775808 ≤ y ∧ y ≤ 9223372036854775807) (ho : IsInts w o os ∧ os.length ≤ 9223372036854775807 ∧ ∀ y ∈ os, -9223372036854775808 ≤ y ∧ y ≤ 9223372036854775807) : Calls Try.prog 6 #[v, .int .i64 sp, .int .i64 rm, u, t, o] w fun e w' => e = .returned (.bool true) ∧ Below w.heap.size w w' :=
  BreaksSound_any v u t o xs es h os sp rm w hv.1 hv.2.1 hu.1 hu.2.1 ht.1 ht.2.1 ho.1 ho.2.1

end Go.Proofs.Ytdcndhfjfllehaa

/- The walked statement VerdictsSpec in the form that its row asks. -/
import Derived.Test.YtninnpcggeofmaaW15
namespace Go.Proofs.Ytninnpcggeofmaa
open Go.RowKit
set_option linter.unusedVariables false

theorem VerdictsSpec_row (v : Value) (spk beg lang at_ known : Int) (l : List Hh) (w : World) (hv : IsHs w v l ∧ l.length ≤ 9223372036854775807) (h1 : (Lit.int .i64 spk).wf = true) (h2 : (Lit.int .i64 beg).wf = true) (h3 : (Lit.int .i64 lang).wf = true) (h4 : (Lit.int .i64 at_).wf = true) (h5 : (Lit.int .i64 known).wf = true) :
    Calls Try.prog 8 #[v, .int .i64 spk, .int .i64 beg, .int .i64 lang, .int .i64 at_, .int .i64 known] w fun e w' => e = .returned (.bool true) ∧ Below w.heap.size w w' :=
  VerdictsSpec_any v l ⟨spk, beg, lang, at_, known⟩ w hv.1 hv.2

end Go.Proofs.Ytninnpcggeofmaa

/- The walked statements HouseSpec and HouseCoversSpec in the form that their rows ask. -/
import Derived.Test.YtninnpcggeofmaaL6
import Derived.Test.YtninnpcggeofmaaOpen3
import Derived.Test.YtninnpcggeofmaaOpen4
namespace Go.Proofs.Ytninnpcggeofmaa
open Go.RowKit
set_option linter.unusedVariables false

theorem HouseSpec_row (v u : Value) (t : Int) (l : List Hh) (x : Hh) (w : World) (hv : IsHs w v l ∧ l.length ≤ 9223372036854775807 ∧ ∀ A n c, v = .slice A n c → n ≤ c) (hu : u = vH x) (ht : (Lit.int .i64 t).wf = true) : Calls Try.prog 3 #[v, u, .int .i64 t] w fun e w' => e = .returned (.bool true) ∧ Below w.heap.size w w' := by
  subst hu
  exact HouseSpec_any v l x t w hv.1 hv.2.1 hv.2.2
theorem HouseCoversSpec_row (u : Value) (spk beg lang at_ : Int) (x : Hh) (w : World) (hu : u = vH x) (h1 : (Lit.int .i64 spk).wf = true) (h2 : (Lit.int .i64 beg).wf = true) (h3 : (Lit.int .i64 lang).wf = true) (h4 : (Lit.int .i64 at_).wf = true) : Calls Try.prog 4 #[u, .int .i64 spk, .int .i64 beg, .int .i64 lang, .int .i64 at_] w fun e w' => e = .returned (.bool true) ∧ Below w.heap.size w w' := by
  subst hu
  exact HouseCoversSpec_any x spk beg lang at_ w

end Go.Proofs.Ytninnpcggeofmaa

/- What the arguments of the statements hold: a decision by value. -/
import Derived.Test.YtninnpcggeofmaaOpen
import Derived.Test.YtninnpcggeofmaaW15
namespace Go.Proofs.Ytninnpcggeofmaa
open Go.ChangeShapes Go.WideShapes Go.RowKit Go.Deep
set_option linter.unusedVariables false
set_option linter.unusedSimpArgs false

section
variable {H : Type} {enc : TypeId × Value → H} {w : World} {base : Nat} {spare : Nat → Bool} {held : Bool}
theorem open_houseV {fuel : Nat} {cs : Array Value} {x : DataW H × List MemPlace} (h : DataW.trod enc Try.prog w base spare held fuel 24 (Value.agg cs).cells.toList = some x) : ∃ p : Hh, (.agg cs : Value) = vH p := by
  obtain ⟨p, hp⟩ := open_house h
  refine ⟨p, ?_⟩
  have e : cs = (encH p).toArray := by
    apply Array.toList_inj.1
    exact hp
  rw [e]; rfl
end
end Go.Proofs.Ytninnpcggeofmaa

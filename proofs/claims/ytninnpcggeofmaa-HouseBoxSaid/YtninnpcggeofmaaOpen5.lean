/- What the arguments of the statements hold: an array of four integers by value. -/
import Derived.Test.YtninnpcggeofmaaOpen
import Derived.Test.YtninnpcggeofmaaOpen4
import Derived.Test.YtninnpcggeofmaaL7
import Derived.OpenShut
namespace Go.Proofs.Ytninnpcggeofmaa
open Go.ChangeShapes Go.WideShapes Go.RowKit Go.Deep
set_option linter.unusedVariables false
set_option linter.unusedSimpArgs false

theorem okWide_array {P : Program} {w : World} {r : Reach} {base : Nat} {t : TypeId} {v : Value} {n : Nat} {e : TypeId} (ht : P.underlying t = some (.array n e)) (h : Value.okWide P w r base t v) : ∃ cs, v = .agg cs ∧ cs.size = P.cellsOf t := by
  simp only [Value.okWide, ht] at h
  obtain ⟨cs, h1, h2, _⟩ := h
  exact ⟨cs, h1, h2⟩
section
variable {H : Type} {enc : TypeId × Value → H} {w : World} {base : Nat} {spare : Nat → Bool} {held : Bool}
theorem open_fourV {fuel : Nat} {cs : Array Value} {x : DataW H × List MemPlace} (h : DataW.trod enc Try.prog w base spare held fuel 37 (Value.agg cs).cells.toList = some x) : ∃ p : Int × Int × Int × Int, (.agg cs : Value) = fourV p.1 p.2.1 p.2.2.1 p.2.2.2 := by
  have h2 : DataW.trod enc Try.prog w base spare held fuel 37 cs.toList = some x := h
  obtain ⟨xs, m, _, _, hl, hxl, hf⟩ := DataW.trod_array Try.underlying37 h2
  rw [show Try.prog.cellsOf 37 = 4 by kernel_rfl] at hl
  obtain ⟨cl⟩ := cs
  match cl, hl with
  | [x0, x1, x2, x3], _ =>
    have hxl2 : xs.length = 4 := hxl
    have h0 : DataW.trod enc Try.prog w base spare held m 3 (([x0, x1, x2, x3].drop (0 * Try.prog.cellsOf 3)).take (Try.prog.cellsOf 3)) = xs[0]? := hf 0 (by decide)
    have h1 : DataW.trod enc Try.prog w base spare held m 3 (([x0, x1, x2, x3].drop (1 * Try.prog.cellsOf 3)).take (Try.prog.cellsOf 3)) = xs[1]? := hf 1 (by decide)
    have h2 : DataW.trod enc Try.prog w base spare held m 3 (([x0, x1, x2, x3].drop (2 * Try.prog.cellsOf 3)).take (Try.prog.cellsOf 3)) = xs[2]? := hf 2 (by decide)
    have h3 : DataW.trod enc Try.prog w base spare held m 3 (([x0, x1, x2, x3].drop (3 * Try.prog.cellsOf 3)).take (Try.prog.cellsOf 3)) = xs[3]? := hf 3 (by decide)
    rw [show Try.prog.cellsOf 3 = 1 by kernel_rfl] at h0 h1 h2 h3
    rw [List.getElem?_eq_getElem (by omega)] at h0 h1 h2 h3
    obtain ⟨y0, z0, _, _⟩ := DataW.trod_int Try.underlying3 h0
    obtain ⟨y1, z1, _, _⟩ := DataW.trod_int Try.underlying3 h1
    obtain ⟨y2, z2, _, _⟩ := DataW.trod_int Try.underlying3 h2
    obtain ⟨y3, z3, _, _⟩ := DataW.trod_int Try.underlying3 h3
    simp at z0 z1 z2 z3
    subst z0 z1 z2 z3
    exact ⟨(y0, y1, y2, y3), rfl⟩
end
theorem HouseBox_row (u v1 v2 : Value) (x : Hh) (p q : Int × Int × Int × Int) (w : World) (hu : u = vH x) (h1 : v1 = fourV p.1 p.2.1 p.2.2.1 p.2.2.2) (h2 : v2 = fourV q.1 q.2.1 q.2.2.1 q.2.2.2) : Calls Try.prog 5 #[u, v1, v2] w fun e w' => e = .returned (.bool true) ∧ Below w.heap.size w w' := by
  subst hu h1 h2
  exact HouseBox_any x _ _ _ _ _ _ _ _ w
end Go.Proofs.Ytninnpcggeofmaa

/- What the arguments of the statements hold: a question. -/
import Derived.Test.YtninnpcggeofmaaOpen
import Derived.Test.YtninnpcggeofmaaW15
namespace Go.Proofs.Ytninnpcggeofmaa
open Go.ChangeShapes Go.WideShapes Go.RowKit Go.Deep
set_option linter.unusedVariables false
set_option linter.unusedSimpArgs false

section
variable {H : Type} {enc : TypeId × Value → H} {w : World} {base : Nat} {spare : Nat → Bool} {held : Bool}
theorem open_ask0 {n : Nat} {cs : List Value} {x : DataW H × List MemPlace} (h : DataW.trod enc Try.prog w base spare held n 48 cs = some x) : ∃ q : Hh.Qq, cs = [.int .i64 q.spk, .int .i64 q.beg, .int .i64 q.lang, .int .i64 q.at_, .int .i64 q.known] := by
  obtain ⟨xs, m, _, _, hl, hxl, hf⟩ := DataW.trod_struct Try.underlying48 h
  rw [show Try.prog.cellsOf 48 = 5 by kernel_rfl] at hl
  have hxl2 : xs.length = 5 := hxl
  match cs, hl with
  | [x0, x1, x2, x3, x4], _ =>
    have h0 : DataW.trod enc Try.prog w base spare held m 3 (([x0, x1, x2, x3, x4].drop 0).take (Try.prog.cellsOf 3)) = xs[0]? := hf 0 _ rfl
    have h1 : DataW.trod enc Try.prog w base spare held m 3 (([x0, x1, x2, x3, x4].drop 1).take (Try.prog.cellsOf 3)) = xs[1]? := hf 1 _ rfl
    have h2 : DataW.trod enc Try.prog w base spare held m 3 (([x0, x1, x2, x3, x4].drop 2).take (Try.prog.cellsOf 3)) = xs[2]? := hf 2 _ rfl
    have h3 : DataW.trod enc Try.prog w base spare held m 3 (([x0, x1, x2, x3, x4].drop 3).take (Try.prog.cellsOf 3)) = xs[3]? := hf 3 _ rfl
    have h4 : DataW.trod enc Try.prog w base spare held m 3 (([x0, x1, x2, x3, x4].drop 4).take (Try.prog.cellsOf 3)) = xs[4]? := hf 4 _ rfl
    rw [show Try.prog.cellsOf 3 = 1 by kernel_rfl] at h0 h1 h2 h3 h4
    rw [List.getElem?_eq_getElem (by omega)] at h0 h1 h2 h3 h4
    obtain ⟨y0, z0, _, _⟩ := DataW.trod_int Try.underlying3 h0
    obtain ⟨y1, z1, _, _⟩ := DataW.trod_int Try.underlying3 h1
    obtain ⟨y2, z2, _, _⟩ := DataW.trod_int Try.underlying3 h2
    obtain ⟨y3, z3, _, _⟩ := DataW.trod_int Try.underlying3 h3
    obtain ⟨y4, z4, _, _⟩ := DataW.trod_int Try.underlying3 h4
    simp at z0 z1 z2 z3 z4
    exact ⟨⟨y0, y1, y2, y3, y4⟩, by rw [z0, z1, z2, z3, z4]⟩
theorem open_ask {fuel : Nat} {cs : Array Value} {x : DataW H × List MemPlace} (h : DataW.trod enc Try.prog w base spare held fuel 48 (Value.agg cs).cells.toList = some x) : ∃ q : Hh.Qq, (.agg cs : Value) = askV q := by
  obtain ⟨q, hq⟩ := open_ask0 h
  refine ⟨q, ?_⟩
  have e : cs = #[.int .i64 q.spk, .int .i64 q.beg, .int .i64 q.lang, .int .i64 q.at_, .int .i64 q.known] := by
    apply Array.toList_inj.1
    exact hq
  rw [e]; rfl
end
end Go.Proofs.Ytninnpcggeofmaa

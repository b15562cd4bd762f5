/- slices.Insert of one amendment, all roads. -/
import Derived.Test.YtcifhigeieoogaaW6
namespace Go.Proofs.Ytcifhigeieoogaa
open Go.RowKit
set_option linter.unusedVariables false
set_option linter.unusedSimpArgs false

theorem insert_any (v : Value) (i : Nat) (xs : List Am) (x : Am) (vb base : Nat) (w : World) (hown : OwnAs w base v xs) (hl : xs.length ≤ 4096) (hb : base ≤ w.heap.size) (hx : BoxA w vb x) (hne : ∀ g, v.ownBlock = some g → g ≠ vb) (hi : i ≤ xs.length) :
    Calls Try.prog 27 #[v, .int .i64 (i : Int), .slice (some ⟨vb, 0, none⟩) 1 1] w (InsPost (xs.take i ++ x :: xs.drop i) base w) := by
  by_cases he : i = xs.length
  · subst he
    rw [List.take_length, List.drop_length]
    exact insert_end v xs x vb base w hown hl hb hx
  · have h2 := hown
    unfold OwnAs at h2
    obtain ⟨hlen, h | ⟨g, cap, cur, rfl, hbg, hg, hnc, hcm, hcs, htk⟩⟩ := h2
    · omega
    · rcases Nat.lt_or_ge cap (xs.length + 1) with hr | hr
      · exact insert_grow g cap i xs x vb base w hown hl hb hx (by omega) hnc hr
      · exact insert_in g cap i xs x vb base w hown hl hb hx (fun e => hne g rfl e.symm) (by omega) hr (by unfold maxLen at hcm; omega)
end Go.Proofs.Ytcifhigeieoogaa

/- slices.Insert of one decision, all roads; what Add answers. -/
import Derived.Test.YtninnpcggeofmaaW23
namespace Go.Proofs.Ytninnpcggeofmaa
open Go.RowKit
set_option linter.unusedVariables false
set_option linter.unusedSimpArgs false

def Hh.ins (l : List Hh) (x : Hh) : List Hh := l.take (Hh.pos l x.no) ++ x :: l.drop (Hh.pos l x.no)
def Hh.addE (l : List Hh) (x : Hh) : Int := if Hh.err l = 0 then (if Hh.right x = true then (if Hh.has l x.no = true then 181 else if l.length = 1024 then 2 else 0) else 350) else Hh.err l
def Hh.addL (l : List Hh) (x : Hh) : List Hh := if Hh.addE l x = 0 then Hh.ins l x else []
theorem insert_any (v : Value) (i : Nat) (xs : List Hh) (x : Hh) (vb base : Nat) (w : World) (hown : OwnHs w base v xs) (hl : xs.length ≤ 1024) (hb : base ≤ w.heap.size) (hx : BoxH w vb x) (hne : ∀ g, v.ownBlock = some g → g ≠ vb) (hi : i ≤ xs.length) :
    Calls Try.prog 40 #[v, .int .i64 (i : Int), .slice (some ⟨vb, 0, none⟩) 1 1] w (InsPost (xs.take i ++ x :: xs.drop i) base w) := by
  by_cases he : i = xs.length
  · subst he
    rw [List.take_length, List.drop_length]
    exact insert_end v xs x vb base w hown hl hb hx
  · have h2 := hown
    unfold OwnHs at h2
    obtain ⟨hlen, h | ⟨g, cap, cur, rfl, hbg, hg, hnc, hcm, hcs, htk⟩⟩ := h2
    · omega
    · rcases Nat.lt_or_ge cap (xs.length + 1) with hr | hr
      · exact insert_grow g cap i xs x vb base w hown hl hb hx (by omega) hnc hr
      · exact insert_in g cap i xs x vb base w hown hl hb hx (fun e => hne g rfl e.symm) (by omega) hr (by unfold maxLen at hcm; omega)
end Go.Proofs.Ytninnpcggeofmaa

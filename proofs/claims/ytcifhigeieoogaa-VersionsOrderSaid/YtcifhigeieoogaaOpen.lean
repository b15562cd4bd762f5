/- What the arguments of the statements hold: slices of amendments, an amendment. -/
import Derived.Test.YtcifhigeieoogaaW1
import Derived.Deep.Slices
import Derived.ChangeSame
import Derived.ProofKit
namespace Go.Proofs.Ytcifhigeieoogaa
open Go.ChangeShapes Go.WideShapes Go.RowKit Go.Deep
set_option linter.unusedVariables false
set_option linter.unusedSimpArgs false

section
variable {H : Type} {enc : TypeId × Value → H} {w : World} {base : Nat} {spare : Nat → Bool} {held : Bool}
theorem add_plain {b off : Nat} (i : Nat) : (⟨b, off, none⟩ : Addr).add i = ⟨b, off + i, none⟩ := by
  unfold Addr.add; split <;> simp_all
theorem cell_lt' {a : Addr} {v : Value} (h : w.cell? a = some v) : a.block < w.heap.size := by
  unfold World.cell? at h
  rcases Nat.lt_or_ge a.block w.heap.size with h1 | h1
  · exact h1
  · simp [Array.getElem?_eq_none h1] at h
theorem rowAt_of {a : Addr} {cs : List Value} (h : ∀ i (hi : i < cs.length), w.cell? (a.add i) = some cs[i]) : RowAt w (some a) cs := fun hne => by
  have hpos : 0 < cs.length := List.length_pos_iff.2 hne
  have h0 := h 0 hpos
  obtain ⟨b, off, spot⟩ := a
  cases spot with
  | some k =>
    exfalso
    unfold World.cell? at h0
    simp [Addr.add] at h0
    split at h0 <;> simp at h0
  | none =>
    refine ⟨b, off, rfl, ?_, fun i hi => ?_⟩
    · have := cell_lt' h0
      rwa [add_plain] at this
    · rw [← add_plain]; exact h i hi

set_option maxHeartbeats 1000000 in
theorem open_am {n : Nat} {cs : List Value} {x : DataW H × List MemPlace} (h : DataW.trod enc Try.prog w base spare held n 27 cs = some x) : ∃ p : Am, cs = encA p := by
  obtain ⟨xs, m, _, _, hl, hxl, hf⟩ := DataW.trod_struct Try.underlying27 h
  rw [show Try.prog.cellsOf 27 = 6 by kernel_rfl] at hl
  have hxl2 : xs.length = 6 := hxl
  match cs, hl with
  | [x0, x1, x2, x3, x4, x5], _ =>
    have h0 : DataW.trod enc Try.prog w base spare held m 3 (([x0, x1, x2, x3, x4, x5].drop 0).take (Try.prog.cellsOf 3)) = xs[0]? := hf 0 _ rfl
    have h1 : DataW.trod enc Try.prog w base spare held m 3 (([x0, x1, x2, x3, x4, x5].drop 1).take (Try.prog.cellsOf 3)) = xs[1]? := hf 1 _ rfl
    have h2 : DataW.trod enc Try.prog w base spare held m 3 (([x0, x1, x2, x3, x4, x5].drop 2).take (Try.prog.cellsOf 3)) = xs[2]? := hf 2 _ rfl
    have h3 : DataW.trod enc Try.prog w base spare held m 3 (([x0, x1, x2, x3, x4, x5].drop 3).take (Try.prog.cellsOf 3)) = xs[3]? := hf 3 _ rfl
    have h4 : DataW.trod enc Try.prog w base spare held m 3 (([x0, x1, x2, x3, x4, x5].drop 4).take (Try.prog.cellsOf 3)) = xs[4]? := hf 4 _ rfl
    have h5 : DataW.trod enc Try.prog w base spare held m 4 (([x0, x1, x2, x3, x4, x5].drop 5).take (Try.prog.cellsOf 4)) = xs[5]? := hf 5 _ rfl
    rw [show Try.prog.cellsOf 3 = 1 by kernel_rfl] at h0 h1 h2 h3 h4
    rw [show Try.prog.cellsOf 4 = 1 by kernel_rfl] at h5
    rw [List.getElem?_eq_getElem (by omega)] at h0 h1 h2 h3 h4 h5
    obtain ⟨y0, z0, _, _⟩ := DataW.trod_int Try.underlying3 h0
    obtain ⟨y1, z1, _, _⟩ := DataW.trod_int Try.underlying3 h1
    obtain ⟨y2, z2, _, _⟩ := DataW.trod_int Try.underlying3 h2
    obtain ⟨y3, z3, _, _⟩ := DataW.trod_int Try.underlying3 h3
    obtain ⟨y4, z4, _, _⟩ := DataW.trod_int Try.underlying3 h4
    obtain ⟨y5, z5, _⟩ := DataW.trod_bool Try.underlying4 h5
    simp at z0 z1 z2 z3 z4 z5
    exact ⟨⟨y0, y1, y2, y3, y4, y5⟩, by rw [z0, z1, z2, z3, z4, z5]; rfl⟩

set_option maxHeartbeats 1000000 in
theorem open_isAs {fuel : Nat} {v : Value} {x : DataW H × List MemPlace} (h : DataW.trod enc Try.prog w base spare held fuel 22 [v] = some x) :
    ∃ l : List Am, IsAs w v l ∧ l.length ≤ 9223372036854775807 := by
  rcases open_slice Try.underlying22 h with ⟨hcs, _⟩ | ⟨a, len, cap, m, n, D, Pp, hcs, _, hl, hm, hmm, _, hi⟩
  · simp at hcs
    subst hcs
    exact ⟨[], IsAs.nil, by simp⟩
  · simp at hcs
    subst hcs
    unfold maxLen at hm
    rw [show Try.prog.cellsOf 27 = 6 by kernel_rfl] at hi
    have hlm : len ≤ m := by rw [hmm]; split <;> omega
    obtain ⟨f, hf⟩ := choose_lt (α := Am) (n := len) (p := fun i q => ∀ j, j < 6 → w.cell? (a.add (i * 6 + j)) = (encA q)[j]?) (fun i hil => by
      obtain ⟨cs', hc, ht⟩ := hi i (by omega)
      obtain ⟨q, rfl⟩ := open_am ht
      obtain ⟨_, _, hat⟩ := World.cells?_some hc
      refine ⟨q, fun j hj => ?_⟩
      have c := hat j (by omega)
      rw [Go.Deep.add_add] at c
      first | exact c | (rw [c]; first | rfl | simp))
    have hlen : ((List.range len).map f).length = len := by simp
    refine ⟨(List.range len).map f, ⟨some a, cap, by rw [hlen], rowAt_of fun i hi => ?_⟩, by omega⟩
    have hl2 := flatA_len ((List.range len).map f)
    rw [hlen] at hl2
    have hk : i / 6 < len := by omega
    have e1 := hf (i / 6) hk (i % 6) (by omega)
    have e2 := flatA_at ((List.range len).map f) (i / 6) (i % 6) (by rw [hlen]; exact hk) (by omega)
    rw [show i / 6 * 6 + i % 6 = i by omega] at e1 e2
    rw [e1, ← List.getElem?_eq_getElem hi, e2]
    simp

theorem open_amV {fuel : Nat} {cs : Array Value} {x : DataW H × List MemPlace} (h : DataW.trod enc Try.prog w base spare held fuel 27 (Value.agg cs).cells.toList = some x) : ∃ p : Am, (.agg cs : Value) = vA p := by
  obtain ⟨p, hp⟩ := open_am h
  refine ⟨p, ?_⟩
  have e : cs = (encA p).toArray := by
    apply Array.toList_inj.1
    exact hp
  rw [e]; rfl
end
end Go.Proofs.Ytcifhigeieoogaa

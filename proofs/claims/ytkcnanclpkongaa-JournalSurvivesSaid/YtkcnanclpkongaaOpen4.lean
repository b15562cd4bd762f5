/- What a script of crashes holds, with the form's own reach. -/
import Derived.Test.YtkcnanclpkongaaCS
import Derived.OpenShut
namespace Go.Proofs.Ytkcnanclpkongaa
open Go.ChangeShapes Go.WideShapes Go.RowKit Go.Deep
set_option linter.unusedVariables false
set_option linter.unusedSimpArgs false

section
variable {H : Type} {enc : TypeId × Value → H} {w : World} {base : Nat} {spare : Nat → Bool} {held : Bool}
set_option maxRecDepth 100000 in
theorem sized_cr {n : Nat} {cs : List Value} {x : DataW H × List MemPlace} (h : DataW.trod enc Try.prog w base spare held n 55 cs = some x) (hw : Wt x.1 55) :
    ∃ (p : Cr) (v : Value), cs = [v, .bool p.stop, .int .u8 p.left] ∧ IsBs w v p.recs ∧ (0 ≤ p.left ∧ p.left ≤ 255) ∧ p.recs.length ≤ 5864062014634 ∧ ∀ k (hk : k < p.recs.length), p.recs[k].length ≤ 140737488351232 := by
  obtain ⟨xs, m, _, hx, hl, hxl, hf⟩ := DataW.trod_struct Try.underlying55 h
  rw [show Try.prog.cellsOf 55 = 3 by kernel_rfl] at hl
  have hxl2 : xs.length = 3 := hxl
  match cs, hl with
  | [a, b, c], _ =>
    have h0 : DataW.trod enc Try.prog w base spare held m 22 (([a, b, c].drop 0).take (Try.prog.cellsOf 22)) = xs[0]? := hf 0 _ rfl
    have h1 : DataW.trod enc Try.prog w base spare held m 4 (([a, b, c].drop 1).take (Try.prog.cellsOf 4)) = xs[1]? := hf 1 _ rfl
    have h2 : DataW.trod enc Try.prog w base spare held m 5 (([a, b, c].drop 2).take (Try.prog.cellsOf 5)) = xs[2]? := hf 2 _ rfl
    rw [show Try.prog.cellsOf 22 = 1 by kernel_rfl] at h0
    rw [show Try.prog.cellsOf 4 = 1 by kernel_rfl] at h1
    rw [show Try.prog.cellsOf 5 = 1 by kernel_rfl] at h2
    rw [List.getElem?_eq_getElem (by omega)] at h0 h1 h2
    have h0' : DataW.trod enc Try.prog w base spare held m 22 [a] = some (xs[0]) := by simpa using h0
    have hw0 : Wt (xs[0]).1 22 := fun n hn => hw n (by
      rw [hx]
      show n ∈ DataW.weights Try.prog 55 (.agg (xs.map (·.1)))
      simp only [DataW.weights, Try.underlying55]
      exact DataW.weights_mem_each (j := 0) (t := 22) (d := (xs[0]).1) rfl (by rw [List.getElem?_map, List.getElem?_eq_getElem (by omega)]; rfl) n hn)
    obtain ⟨rs, hrs, hrl, hre⟩ := sized_isBs h0' hw0
    obtain ⟨q, hq, _⟩ := DataW.trod_bool Try.underlying4 h1
    obtain ⟨p, hp, _, hpw⟩ := DataW.trod_int Try.underlying5 h2
    simp at hp hq
    exact ⟨⟨rs, q, p⟩, a, by rw [hp, hq], hrs, Go.bounds_u8 hpw, hrl, hre⟩
theorem sized_isCs {fuel : Nat} {v : Value} {x : DataW H × List MemPlace} (h : DataW.trod enc Try.prog w base spare held fuel 53 [v] = some x) (hw : Wt x.1 53) :
    ∃ l : List Cr, IsCs w v l ∧ (∀ p ∈ l, (0 ≤ p.left ∧ p.left ≤ 255) ∧ p.recs.length ≤ 5864062014634 ∧ ∀ k (hk : k < p.recs.length), p.recs[k].length ≤ 140737488351232) ∧ l.length ≤ 9223372036854775807 := by
  rcases open_slice Try.underlying53 h with ⟨hcs, _⟩ | ⟨a, len, cap, m, n, D, Pp, hcs, _, hl, hm, hmm, hx, hi⟩
  · simp at hcs
    subst hcs
    exact ⟨[], IsCs.nil, fun p hp => by simp at hp, by simp⟩
  · simp at hcs
    subst hcs
    unfold maxLen at hm
    rw [show Try.prog.cellsOf 55 = 3 by kernel_rfl] at hi
    have hlm : len ≤ m := by rw [hmm]; split <;> omega
    have hwt : ∀ n ∈ DataW.weightsAll Try.prog 55 ((List.range len).map D), n ≤ 140737488351232 := fun n hn => hw n (by rw [hx]; simp only [DataW.weights, Try.underlying53]; exact List.mem_cons_of_mem _ (List.mem_append_left _ hn))
    obtain ⟨f, hf⟩ := choose_lt (α := Cr × Value) (n := len) (p := fun i q => w.cell? (a.add (i * 3)) = some q.2 ∧ w.cell? (a.add (i * 3 + 1)) = some (.bool q.1.stop) ∧ w.cell? (a.add (i * 3 + 2)) = some (.int .u8 q.1.left) ∧ IsBs w q.2 q.1.recs ∧ (0 ≤ q.1.left ∧ q.1.left ≤ 255) ∧ q.1.recs.length ≤ 5864062014634 ∧ ∀ k (hk : k < q.1.recs.length), q.1.recs[k].length ≤ 140737488351232) (fun i hil => by
      obtain ⟨cs', hc, ht⟩ := hi i (by omega)
      obtain ⟨p, u, rfl, hb, hrest⟩ := sized_cr ht (fun n hn => hwt n (wt_all (List.mem_map.2 ⟨i, List.mem_range.2 hil, rfl⟩) n hn))
      obtain ⟨_, _, hat⟩ := World.cells?_some hc
      have c0 := hat 0 (by omega)
      have c1 := hat 1 (by omega)
      have c2 := hat 2 (by omega)
      rw [Go.Deep.add_add] at c0 c1 c2
      exact ⟨(p, u), by simpa using c0, by simpa using c1, by simpa using c2, hb, hrest⟩)
    have hlen : ((List.range len).map fun i => (f i).1).length = len := by simp
    have hlen2 : ((List.range len).map fun i => (f i).2).length = len := by simp
    refine ⟨(List.range len).map fun i => (f i).1, ⟨some a, cap, (List.range len).map fun i => (f i).2, by rw [hlen], by rw [hlen]; omega, by rw [hlen, hlen2], rowAt_of fun i h1 => ?_, fun i h1 h2 => ?_⟩, ?_, by omega⟩
    · obtain ⟨k, hk, hk', h2⟩ := rowC_get (by rw [hlen, hlen2]) i h1
      rw [hlen] at hk
      obtain ⟨e1, e2, e3, _⟩ := hf k hk
      rcases h2 with ⟨rfl, h2⟩ | ⟨rfl, h2⟩ | ⟨rfl, h2⟩
      · rw [h2, e1]; simp
      · rw [h2, e2]; simp
      · rw [h2, e3]; simp
    · rw [hlen] at h2
      simpa using (hf i h2).2.2.2.1
    · intro p hp
      obtain ⟨i, hi2, rfl⟩ := List.mem_map.1 hp
      exact (hf i (List.mem_range.1 hi2)).2.2.2.2
end
end Go.Proofs.Ytkcnanclpkongaa

/- What the arguments hold, by the bulk of their reading. -/
import Derived.Test.YtkcnanclpkongaaRows
import Derived.Test.YtkcnanclpkongaaOpen2
import Derived.Test.YtkcnanclpkongaaJ19
namespace Go.Proofs.Ytkcnanclpkongaa
open Go.ChangeShapes Go.WideShapes Go.RowKit Go.Deep
set_option linter.unusedVariables false
set_option linter.unusedSimpArgs false

section
variable {H : Type} {enc : TypeId × Value → H} {w : World} {base : Nat} {spare : Nat → Bool} {held : Bool}
theorem bulk_one (d : DataW H) : 1 ≤ Rows.uptoBulk d := by
  cases d with
  | lit l => cases l <;> simp [Rows.uptoBulk]
  | nil => simp [Rows.uptoBulk]
  | ptr d => simp [Rows.uptoBulk]
  | slice elems spare => simp [Rows.uptoBulk]
  | agg parts => simp [Rows.uptoBulk]
  | iface t d => simp [Rows.uptoBulk]
  | map entries => simp [Rows.uptoBulk]
  | held h => simp [Rows.uptoBulk]
theorem bulk_part {d : DataW H} {l : List (DataW H)} (h : d ∈ l) : Rows.uptoBulk d ≤ Rows.uptoBulkAll l := by
  induction l with
  | nil => cases h
  | cons x r ih =>
    simp only [Rows.uptoBulkAll]
    rcases List.mem_cons.1 h with rfl | h
    · omega
    · have := ih h; omega
theorem bulk_len (l : List (DataW H)) : l.length ≤ Rows.uptoBulkAll l := by
  induction l with
  | nil => simp [Rows.uptoBulkAll]
  | cons x r ih => have := bulk_one x; simp only [Rows.uptoBulkAll, List.length_cons]; omega
theorem bulk_few {f : Nat → By} {D : Nat → DataW H} : ∀ (is : List Nat), (∀ i ∈ is, (f i).length + 1 ≤ Rows.uptoBulk (D i)) → Jn.fewN (is.map f) ≤ Rows.uptoBulkAll (is.map D)
  | [], _ => by simp [Jn.fewN]
  | i :: is, h => by
    have h1 := h i (by simp)
    have h2 := bulk_few is (fun k hk => h k (by simp [hk]))
    simp only [List.map_cons, Jn.fewN, Rows.uptoBulkAll]
    omega
theorem bulk_isBytes {fuel : Nat} {v : Value} {x : DataW H × List MemPlace} (h : DataW.trod enc Try.prog w base spare held fuel 35 [v] = some x) :
    ∃ bs : By, IsBytes w v bs ∧ bs.length + 1 ≤ Rows.uptoBulk x.1 := by
  obtain ⟨bs, hb⟩ := open_isBytes h
  refine ⟨bs, hb, ?_⟩
  rcases open_slice1 Try.underlying35 (by kernel_rfl) h with ⟨hcs, hx⟩ | ⟨a, len, cap, m, n, V, D, Pp, hcs, _, hl, hm, hmm, hx, hi⟩
  · simp at hcs
    subst hcs
    have := bytes_none0 hb
    rw [this, hx]
    simp [Rows.uptoBulk]
  · simp at hcs
    subst hcs
    obtain ⟨A', c', e, _, _⟩ := hb
    injection e with _ e _
    rw [← e, hx]
    have := bulk_len ((List.range len).map D)
    simp only [List.length_map, List.length_range] at this
    simp only [Rows.uptoBulk]
    omega
theorem bulk_isBs {fuel : Nat} {v : Value} {x : DataW H × List MemPlace} (h : DataW.trod enc Try.prog w base spare held fuel 22 [v] = some x) :
    ∃ l : List By, IsBs w v l ∧ Jn.fewN l ≤ Rows.uptoBulk x.1 := by
  rcases open_slice1 Try.underlying22 (by kernel_rfl) h with ⟨hcs, hx⟩ | ⟨a, len, cap, m, n, V, D, Pp, hcs, _, hl, hm, hmm, hx, hi⟩
  · simp at hcs
    subst hcs
    exact ⟨[], IsBs.nil, by simp [Jn.fewN]⟩
  · simp at hcs
    subst hcs
    have hlm : len ≤ m := by rw [hmm]; split <;> omega
    obtain ⟨f, hf⟩ := choose_lt (α := By) (n := len) (p := fun i q => IsBytes w (V i) q ∧ q.length + 1 ≤ Rows.uptoBulk (D i)) (fun i hil => bulk_isBytes (hi i (by omega)).2)
    have hlen : ((List.range len).map f).length = len := by simp
    have hlen2 : ((List.range len).map V).length = len := by simp
    refine ⟨(List.range len).map f, ⟨some a, cap, (List.range len).map V, by rw [hlen], by rw [hlen]; omega, by rw [hlen, hlen2], rowAt_of fun i h1 => ?_, fun i h1 h2 => ?_⟩, ?_⟩
    · rw [hlen2] at h1
      rw [(hi i (by omega)).1]; simp
    · rw [hlen] at h2
      simpa using (hf i h2).1
    · have := bulk_few (f := f) (D := D) (List.range len) (fun i hi => (hf i (List.mem_range.1 hi)).2)
      rw [hx]
      simp only [Rows.uptoBulk]
      omega
set_option maxRecDepth 100000 in
theorem bulk_journalV {fuel : Nat} {cs : Array Value} {x : DataW H × List MemPlace} (h : DataW.trod enc Try.prog w base spare held fuel 29 (Value.agg cs).cells.toList = some x) :
    ∃ j : Jl, IsJ w (.agg cs) j ∧ Jn.fewN j.rs ≤ Rows.uptoBulk x.1 := by
  have h' : DataW.trod enc Try.prog w base spare held fuel 29 cs.toList = some x := h
  obtain ⟨xs, m, _, hx, hl, hxl, hf⟩ := DataW.trod_struct Try.underlying29 h'
  rw [show Try.prog.cellsOf 29 = 3 by kernel_rfl] at hl
  have hxl2 : xs.length = 3 := hxl
  obtain ⟨l⟩ := cs
  simp only at hl hf
  match l, hl with
  | [a, b, c], _ =>
    have h0 : DataW.trod enc Try.prog w base spare held m 22 (([a, b, c].drop 0).take (Try.prog.cellsOf 22)) = xs[0]? := hf 0 _ rfl
    have h1 : DataW.trod enc Try.prog w base spare held m 3 (([a, b, c].drop 1).take (Try.prog.cellsOf 3)) = xs[1]? := hf 1 _ rfl
    have h2 : DataW.trod enc Try.prog w base spare held m 3 (([a, b, c].drop 2).take (Try.prog.cellsOf 3)) = xs[2]? := hf 2 _ rfl
    rw [show Try.prog.cellsOf 22 = 1 by kernel_rfl] at h0
    rw [show Try.prog.cellsOf 3 = 1 by kernel_rfl] at h1 h2
    rw [List.getElem?_eq_getElem (by omega)] at h0 h1 h2
    have h0' : DataW.trod enc Try.prog w base spare held m 22 [a] = some (xs[0]) := by simpa using h0
    obtain ⟨rs, hrs, hrl⟩ := bulk_isBs h0'
    obtain ⟨p, hp, _, _⟩ := DataW.trod_int Try.underlying3 h1
    obtain ⟨q, hq, _, _⟩ := DataW.trod_int Try.underlying3 h2
    simp at hp hq
    refine ⟨⟨rs, p, q⟩, ⟨a, by rw [hp, hq], hrs⟩, ?_⟩
    have hm : (xs[0]).1 ∈ xs.map (·.1) := List.mem_map.2 ⟨xs[0], List.getElem_mem _, rfl⟩
    have := bulk_part hm
    rw [hx]
    simp only [Rows.uptoBulk]
    omega
end
end Go.Proofs.Ytkcnanclpkongaa

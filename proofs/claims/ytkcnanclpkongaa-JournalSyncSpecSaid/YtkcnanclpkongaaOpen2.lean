/- What the arguments hold, with the form's own reach: bounds of lengths. -/
import Derived.Test.YtkcnanclpkongaaOpen
import Derived.SizedLaws
namespace Go.Proofs.Ytkcnanclpkongaa
open Go.ChangeShapes Go.WideShapes Go.RowKit Go.Deep
set_option linter.unusedVariables false
set_option linter.unusedSimpArgs false

section
variable {H : Type} {enc : TypeId × Value → H} {w : World} {base : Nat} {spare : Nat → Bool} {held : Bool}
def Wt (d : DataW H) (t : TypeId) : Prop := ∀ n ∈ d.weights Try.prog t, n ≤ 140737488351232
theorem wt_of {ts : List TypeId} {ds : List (DataW H)} (h : (DataW.weightsEach Try.prog ts ds).all (· ≤ reachBytes) = true) {j : Nat} {t : TypeId} {d : DataW H} (ht : ts[j]? = some t) (hd : ds[j]? = some d) : Wt d t := fun n hn => by
  have := List.all_eq_true.1 h _ (DataW.weights_mem_each ht hd n hn)
  have e : reachBytes = 140737488351232 := by decide
  rw [e] at this
  simpa using this
theorem wt_all {P : Program} {e : TypeId} : ∀ {l : List (DataW H)} {d : DataW H}, d ∈ l → ∀ n ∈ d.weights P e, n ∈ DataW.weightsAll P e l
  | x :: r, d, h, n, hn => by
    simp only [DataW.weightsAll, List.mem_append]
    rcases List.mem_cons.1 h with rfl | h
    · exact .inl hn
    · exact .inr (wt_all h n hn)
theorem bytes_none0 {n c : Nat} {bs : By} (h : IsBytes w (.slice none n c) bs) : bs = [] := by
  obtain ⟨A', c2, e, h1, hr⟩ := h
  injection e with e
  subst e
  cases bs with
  | nil => rfl
  | cons x r =>
    obtain ⟨b, off, e1, _⟩ := hr (by simp)
    cases e1
theorem sized_isBytes {fuel : Nat} {v : Value} {x : DataW H × List MemPlace} (h : DataW.trod enc Try.prog w base spare held fuel 35 [v] = some x) (hw : Wt x.1 35) :
    ∃ bs : By, IsBytes w v bs ∧ bs.length ≤ 140737488351232 := by
  obtain ⟨bs, hb⟩ := open_isBytes h
  refine ⟨bs, hb, ?_⟩
  rcases open_slice1 Try.underlying35 (by kernel_rfl) h with ⟨hcs, _⟩ | ⟨a, len, cap, m, n, V, D, Pp, hcs, _, hl, hm, hmm, hx, hi⟩
  · simp at hcs
    subst hcs
    have := bytes_none0 hb
    rw [this]; exact Nat.zero_le _
  · simp at hcs
    subst hcs
    obtain ⟨A', c', e, _, _⟩ := hb
    injection e with _ e _
    rw [← e]
    have h1 := hw ((((List.range len).map D).length + ((List.range (m - len)).map fun j => D (len + j)).length) * Try.prog.bytesOf 5) (by rw [hx]; simp [DataW.weights, Try.underlying35])
    rw [show Try.prog.bytesOf 5 = 1 by kernel_rfl] at h1
    simp at h1
    omega
theorem sized_isBs {fuel : Nat} {v : Value} {x : DataW H × List MemPlace} (h : DataW.trod enc Try.prog w base spare held fuel 22 [v] = some x) (hw : Wt x.1 22) :
    ∃ l : List By, IsBs w v l ∧ l.length ≤ 5864062014634 ∧ ∀ k (hk : k < l.length), l[k].length ≤ 140737488351232 := by
  rcases open_slice1 Try.underlying22 (by kernel_rfl) h with ⟨hcs, _⟩ | ⟨a, len, cap, m, n, V, D, Pp, hcs, _, hl, hm, hmm, hx, hi⟩
  · simp at hcs
    subst hcs
    exact ⟨[], IsBs.nil, by simp, fun k hk => by simp at hk⟩
  · simp at hcs
    subst hcs
    unfold maxLen at hm
    have hlm : len ≤ m := by rw [hmm]; split <;> omega
    have hwt : ∀ n ∈ DataW.weightsAll Try.prog 35 ((List.range len).map D), n ≤ 140737488351232 := fun n hn => hw n (by rw [hx]; simp only [DataW.weights, Try.underlying22]; exact List.mem_cons_of_mem _ (List.mem_append_left _ hn))
    have hN := hw ((((List.range len).map D).length + ((List.range (m - len)).map fun j => D (len + j)).length) * Try.prog.bytesOf 35) (by rw [hx]; simp [DataW.weights, Try.underlying22])
    rw [show Try.prog.bytesOf 35 = 24 by kernel_rfl] at hN
    simp at hN
    obtain ⟨f, hf⟩ := choose_lt (α := By) (n := len) (p := fun i q => IsBytes w (V i) q ∧ q.length ≤ 140737488351232) (fun i hil => sized_isBytes (hi i (by omega)).2 (fun n hn => hwt n (wt_all (List.mem_map.2 ⟨i, List.mem_range.2 hil, rfl⟩) n hn)))
    have hlen : ((List.range len).map f).length = len := by simp
    have hlen2 : ((List.range len).map V).length = len := by simp
    refine ⟨(List.range len).map f, ⟨some a, cap, (List.range len).map V, by rw [hlen], by rw [hlen]; omega, by rw [hlen, hlen2], rowAt_of fun i h1 => ?_, fun i h1 h2 => ?_⟩, by rw [hlen]; omega, fun k hk => ?_⟩
    · rw [hlen2] at h1
      rw [(hi i (by omega)).1]; simp
    · rw [hlen] at h2
      simpa using (hf i h2).1
    · rw [hlen] at hk
      simpa using (hf k hk).2
set_option maxRecDepth 100000 in
theorem sized_journalV {fuel : Nat} {cs : Array Value} {x : DataW H × List MemPlace} (h : DataW.trod enc Try.prog w base spare held fuel 29 (Value.agg cs).cells.toList = some x) (hw : Wt x.1 29) :
    ∃ j : Jl, IsJ w (.agg cs) j ∧ j.rs.length ≤ 5864062014634 ∧ ∀ k (hk : k < j.rs.length), j.rs[k].length ≤ 140737488351232 := by
  have h' : DataW.trod enc Try.prog w base spare held fuel 29 cs.toList = some x := h
  obtain ⟨xs, m, _, hx, hl, hxl, hf⟩ := DataW.trod_struct Try.underlying29 h'
  rw [show Try.prog.cellsOf 29 = 3 by kernel_rfl] at hl
  have hxl2 : xs.length = 3 := hxl
  obtain ⟨l⟩ := cs
  simp only at hl hf
  match l, hl with
  | [a, b, c], _ =>
    have h0 : DataW.trod enc Try.prog w base spare held m 22 (([a, b, c].drop 0).take (Try.prog.cellsOf 22)) = xs[0]? := hf 0 _ rfl
    have h1 : DataW.trod enc Try.prog w base spare held m 3 (([a, b, c].drop 1).take (Try.prog.cellsOf 3)) = xs[1]? := hf 1 _ rfl
    have h2 : DataW.trod enc Try.prog w base spare held m 3 (([a, b, c].drop 2).take (Try.prog.cellsOf 3)) = xs[2]? := hf 2 _ rfl
    rw [show Try.prog.cellsOf 22 = 1 by kernel_rfl] at h0
    rw [show Try.prog.cellsOf 3 = 1 by kernel_rfl] at h1 h2
    rw [List.getElem?_eq_getElem (by omega)] at h0 h1 h2
    have h0' : DataW.trod enc Try.prog w base spare held m 22 [a] = some (xs[0]) := by simpa using h0
    have hw0 : Wt (xs[0]).1 22 := fun n hn => hw n (by
      rw [hx]
      show n ∈ DataW.weights Try.prog 29 (.agg (xs.map (·.1)))
      simp only [DataW.weights, Try.underlying29]
      exact DataW.weights_mem_each (j := 0) (t := 22) (d := (xs[0]).1) rfl (by rw [List.getElem?_map, List.getElem?_eq_getElem (by omega)]; rfl) n hn)
    obtain ⟨rs, hrs, hrl, hre⟩ := sized_isBs h0' hw0
    obtain ⟨p, hp, _, _⟩ := DataW.trod_int Try.underlying3 h1
    obtain ⟨q, hq, _, _⟩ := DataW.trod_int Try.underlying3 h2
    simp at hp hq
    exact ⟨⟨rs, p, q⟩, ⟨a, by rw [hp, hq], hrs⟩, hrl, hre⟩
end
end Go.Proofs.Ytkcnanclpkongaa

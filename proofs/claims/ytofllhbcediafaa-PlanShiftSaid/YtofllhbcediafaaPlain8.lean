/- Plain mathematics of layer 50: one word due later; what is revised. -/
import Derived.Test.YtofllhbcediafaaPlain7
namespace Go.Proofs.Ytofllhbcediafaa
set_option linter.unusedVariables false
set_option linter.unusedSimpArgs false
namespace Pl
theorem allOk_iff (l : List (List Life)) (ds : List Int) (h : ds.length = l.length) : allOk l ds = true ↔ ∀ i (hi : i < l.length), wordOk l[i] (at_ ds i) = true := by
  induction l generalizing ds with
  | nil => simp [allOk]
  | cons x l ih =>
    cases ds with
    | nil => simp at h
    | cons d ds =>
      simp only [allOk, Bool.and_eq_true, List.tail_cons, ih ds (by simpa using h)]
      constructor
      · rintro ⟨h1, h2⟩ i hi
        cases i with
        | zero => exact h1
        | succ i => exact h2 i (by simpa using hi)
      · intro h3
        exact ⟨h3 0 (by simp), fun i hi => h3 (i + 1) (by simpa using hi)⟩
theorem err_zero (l : List (List Life)) (ds : List Int) (h : ds.length = l.length) : err l ds = 0 ↔ l.length ≤ 1024 ∧ l.any long = false ∧ ∀ i (hi : i < l.length), wordOk l[i] (at_ ds i) = true := by
  rw [← allOk_iff l ds h]
  unfold err
  by_cases h1 : 1024 < l.length
  · simp [h1]; omega
  · cases h2 : l.any long
    · cases h3 : allOk l ds <;> simp [h1, h2, h3, h] <;> omega
    · simp [h1, h2]
theorem wordOk_due {x : List Life} {d d' : Int} (h : wordOk x d = true) (h0 : 0 ≤ d') (h1 : d' < 1099511627776) : wordOk x d' = true := by
  simp only [wordOk, Bool.and_eq_true, decide_eq_true_eq] at h ⊢
  exact ⟨⟨⟨h.1.1.1, h0⟩, h1⟩, h.2⟩
theorem at_set (ds : List Int) (k : Nat) (y : Int) (i : Nat) (hk : k < ds.length) : at_ (ds.set k y) i = if i = k then y else at_ ds i := by
  unfold at_
  rw [List.getElem?_set]
  by_cases h : k = i
  · subst h; simp [hk]
  · rw [if_neg h, if_neg (fun e => h e.symm)]
theorem shown_set (ds : List Int) (k : Nat) (y : Int) (hk : k < ds.length) (hy : at_ ds k ≤ y) (i : Nat) (hi : i < ds.length) : at_ (shown ds) i ≤ at_ (shown (ds.set k y)) i := by
  refine le_shown _ i (by simpa using hi) _ (fun j hij hj => ?_)
  have := shown_le ds i j hij (by simpa using hj)
  rw [at_set ds k y j hk]
  split
  · rename_i e; subst e; omega
  · exact this

/-- how many versions are revised -/
def revN (x : List Life) : Nat := (x.filter (fun y => decide (y.2 < 1099511627776))).length
def revT (l : List (List Life)) : Nat := (l.map revN).sum
theorem revN_step (x : List Life) (k : Nat) (h : k < x.length) : revN (x.take (k + 1)) = revN (x.take k) + (if x[k].2 < 1099511627776 then 1 else 0) := by
  unfold revN
  rw [List.take_succ_eq_append_getElem h, List.filter_append, List.length_append]
  by_cases hg : x[k].2 < 1099511627776 <;> simp [hg]
theorem revT_step (l : List (List Life)) (k : Nat) (h : k < l.length) : revT (l.take (k + 1)) = revT (l.take k) + revN l[k] := by
  unfold revT
  rw [List.take_succ_eq_append_getElem h, List.map_append, List.sum_append]; simp
theorem revN_le (x : List Life) : revN x ≤ x.length := List.length_filter_le _ _
theorem revN_le' (x : List Life) (k : Nat) : revN (x.take k) ≤ revN x := by
  have e : x = x.take k ++ x.drop k := (List.take_append_drop _ _).symm
  unfold revN
  conv => rhs; rw [e, List.filter_append, List.length_append]
  omega
theorem lostW_rev (i : Nat) (t : Int) (x : List Life) : (lostW i t x).length ≤ revN x := by
  unfold revN
  induction x with
  | nil => simp [lostW]
  | cons y r ih =>
    simp only [lostW, List.filter_cons]
    by_cases h1 : gone t y = true
    · have h2 : y.2 < 1099511627776 := by simp only [gone, Bool.and_eq_true, decide_eq_true_eq] at h1; exact h1.1
      rw [if_pos h1, if_pos (by simpa using h2)]; simpa using ih
    · rw [if_neg h1]
      split
      · simp; omega
      · exact ih
theorem lostF_rev (l : List (List Life)) (s : List Int) (h : s.length = l.length) : (lostF 0 l s).length ≤ revT l := by
  have key : ∀ k, k ≤ l.length → (lostF 0 (l.take k) s).length ≤ revT (l.take k) := by
    intro k hk
    induction k with
    | zero => simp [lostF]
    | succ k ih =>
      rw [lostF_take l s k (by omega) (by omega), revT_step l k (by omega), List.length_append]
      have h1 := ih (by omega)
      have h2 := lostW_rev k (s[k]'(by omega)) (l[k]'(by omega))
      omega
  have := key l.length (Nat.le_refl _)
  rwa [List.take_of_length_le (Nat.le_refl _)] at this
theorem revT_bd (l : List (List Life)) (n : Nat) (h : ∀ k (h : k < l.length), l[k].length ≤ n) (k : Nat) (hk : k ≤ l.length) : revT (l.take k) ≤ n * k := by
  induction k with
  | zero => simp [revT]
  | succ k ih =>
    rw [revT_step l k (by omega), Nat.mul_succ]
    have h1 := ih (by omega)
    have h2 := revN_le (l[k]'(by omega))
    have h3 := h k (by omega)
    omega
end Pl
end Go.Proofs.Ytofllhbcediafaa

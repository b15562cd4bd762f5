/- Plain mathematics of layer 50: what is withdrawn, compared. -/
import Derived.Test.YtofllhbcediafaaPlain6
namespace Go.Proofs.Ytofllhbcediafaa
set_option linter.unusedVariables false
namespace Pl
theorem gone_mono {t t' : Int} (h : t ≤ t') (y : Life) (hg : gone t' y = true) : gone t y = true := by
  simp only [gone, Bool.and_eq_true, decide_eq_true_eq] at hg ⊢; omega
theorem lostW_mono {t t' : Int} (h : t ≤ t') (i : Nat) (x : List Life) : (lostW i t' x).length ≤ (lostW i t x).length := by
  induction x with
  | nil => simp [lostW]
  | cons y r ih =>
    simp only [lostW]
    by_cases h1 : gone t' y = true
    · rw [if_pos h1, if_pos (gone_mono h y h1)]; simpa using ih
    · rw [if_neg h1]
      split
      · simp; omega
      · exact ih
theorem lostF_mono {l : List (List Life)} {s s' : List Int} (h1 : s.length = l.length) (h2 : s'.length = l.length) (h : ∀ i, i < l.length → at_ s i ≤ at_ s' i) (k : Nat) (hk : k ≤ l.length) :
    (lostF 0 (l.take k) s').length ≤ (lostF 0 (l.take k) s).length := by
  induction k with
  | zero => simp [lostF]
  | succ k ih =>
    rw [lostF_take l s k (by omega) (by omega), lostF_take l s' k (by omega) (by omega), List.length_append, List.length_append]
    have h3 := ih (by omega)
    have h4 := h k (by omega)
    rw [at_eq s k (by omega), at_eq s' k (by omega)] at h4
    have h5 := lostW_mono h4 k (l[k]'(by omega))
    omega
theorem withdrawn_mono {l : List (List Life)} {s s' : List Int} (h1 : s.length = l.length) (h2 : s'.length = l.length) (h : ∀ i, i < l.length → at_ s i ≤ at_ s' i) : withdrawn l s' ≤ withdrawn l s := by
  have := lostF_mono h1 h2 h l.length (Nat.le_refl _)
  rw [List.take_of_length_le (Nat.le_refl _)] at this
  unfold withdrawn
  omega
end Pl
end Go.Proofs.Ytofllhbcediafaa

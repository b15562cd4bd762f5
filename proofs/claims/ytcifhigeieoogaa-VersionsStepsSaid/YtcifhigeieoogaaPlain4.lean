/- Plain law of layer 16 for VersionsSteps. -/
import Derived.Test.YtcifhigeieoogaaPlain3
namespace Go.Proofs.Ytcifhigeieoogaa
set_option linter.unusedVariables false
set_option linter.unusedSimpArgs false
namespace Vn
def z0 : St := ⟨0, 0, false⟩
/-- the step before -/
def bef (s : List St) : Nat → St
  | 0 => z0
  | k + 1 => s.getD k z0
theorem bef_succ {s : List St} {k : Nat} (hk : k < s.length) : bef s (k + 1) = s[k] := by
  show s.getD k z0 = s[k]
  rw [List.getD_eq_getElem?_getD, List.getElem?_eq_getElem hk]; rfl
theorem lastS_take {s : List St} {t : Int} {k : Nat} (hk : k ≤ s.length) (h : ∀ i (hi : i < s.length), i < k → s[i].at_ ≤ t) : lastS t z0 (s.take k) = bef s k := by
  cases k with
  | zero => rfl
  | succ k =>
    rw [List.take_succ_eq_append_getElem (by omega), lastS_app]
    show (if s[k].at_ ≤ t then s[k] else _) = _
    rw [if_pos (h k (by omega) (by omega))]
    exact (bef_succ (by omega)).symm
theorem lastS_succ {s : List St} {k : Nat} (hk : k < s.length) (t : Int) : lastS t z0 (s.take (k + 1)) = if s[k].at_ ≤ t then s[k] else lastS t z0 (s.take k) := by
  rw [List.take_succ_eq_append_getElem hk, lastS_app]; rfl
theorem step_facts {l : List Am} (hl : ∀ x ∈ l, right x = true) (hinc : l.Pairwise (fun x y => x.no < y.no)) {key kn : Int} {s : List St} (h : Hist l key kn s) {k : Nat} (hk : k < s.length) :
    (0 < k → (bef s k).at_ < s[k].at_) ∧ ¬ (s[k].value = (bef s k).value ∧ s[k].ok = (bef s k).ok) ∧ (s[k].ok = false → s[k].value = 0) ∧ ∃ y ∈ l, y.at_ = s[k].at_ ∧ y.key = key ∧ y.known ≤ kn := by
  have hp := List.pairwise_iff_getElem.1 h.inc
  obtain ⟨m1, m2, m3⟩ := (h.mem s[k]).1 (List.getElem_mem hk)
  refine ⟨fun h0 => ?_, ?_, fun h0 => ?_, ?_⟩
  · obtain ⟨j, rfl⟩ : ∃ j, k = j + 1 := ⟨k - 1, by omega⟩
    rw [bef_succ (by omega)]
    exact hp j (j + 1) (by omega) hk (by omega)
  · rintro ⟨e1, e2⟩
    have h1 := hist_val hl h (t := s[k].at_ - 1) (by omega)
    have h2 : lastS (s[k].at_ - 1) ⟨0, 0, false⟩ s = bef s k := by
      obtain ⟨u, hu⟩ : ∃ u, s[k].at_ = u := ⟨_, rfl⟩
      have e4 : lastS (s[k].at_ - 1) z0 (s.take k) = bef s k := lastS_take (by omega) (fun i hi hik => by have := hp i k hi hk hik; omega)
      have e5 : lastS (s[k].at_ - 1) z0 (s.take k ++ s.drop k) = lastS (s[k].at_ - 1) (bef s k) (s.drop k) := by rw [lastS_app, e4]
      rw [List.take_append_drop] at e5
      refine e5.trans ?_
      refine lastS_far _ (fun y hy => ?_)
      obtain ⟨j, hj, rfl⟩ := List.getElem_of_mem hy
      rw [List.length_drop] at hj
      rw [List.getElem_drop]
      by_cases e : j = 0
      · subst e; simp; omega
      · have := hp k (k + j) hk (by omega) (by omega); omega
    rw [h2] at h1
    exact m3 (by rw [← m2, ← h1, e1, e2])
  · have h1 := best_is hinc key s[k].at_ kn
    have h2 := ofB_ok hl h1
    have h3 : (s[k].value, s[k].ok) = ofB (best l key s[k].at_ kn) := m2
    rw [← h3] at h2
    exact h2 h0
  · apply Classical.byContradiction
    intro hno
    apply m3
    refine vl_const fun y hy ho => ?_
    unfold own at ho
    simp at ho
    have : y.at_ ≠ s[k].at_ := fun e => hno ⟨y, hy, e, ho.1, ho.2⟩
    omega
/-- of the step's time, of the register, and known -/
def atP (u key kn : Int) (y : Am) : Bool := decide (y.at_ = u) && decide (y.key = key) && decide (y.known ≤ kn)
theorem atP_any {l : List Am} {u key kn : Int} (h : ∃ y ∈ l, y.at_ = u ∧ y.key = key ∧ y.known ≤ kn) : l.any (atP u key kn) = true := by
  obtain ⟨y, hy, h1, h2, h3⟩ := h
  rw [List.any_eq_true]
  exact ⟨y, hy, by unfold atP; simp [h1, h2, h3]⟩
theorem argV_split {key t kn : Int} : argV key t kn = (inn key 1048576 && inn t 1099511627775 && inn kn 1099511627775) := rfl
end Vn
end Go.Proofs.Ytcifhigeieoogaa

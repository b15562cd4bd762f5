/- Plain mathematics of layer 50: the latest plan. -/
import Derived.Test.YtofllhbcediafaaPlain3
namespace Go.Proofs.Ytofllhbcediafaa
namespace Pl
def pickM (d : Int) (i : Nat) : List (Int × Nat) → Int × Nat
  | [] => (d, i)
  | (e, j) :: _ => if d ≤ e then (d, i) else (e, j)
/-- for each word: when it is shown, and why -/
def mins : Nat → List Int → List (Int × Nat)
  | _, [] => []
  | i, d :: r => pickM d i (mins (i + 1) r) :: mins (i + 1) r
theorem mins_length (i : Nat) (ds : List Int) : (mins i ds).length = ds.length := by
  induction ds generalizing i with
  | nil => rfl
  | cons d r ih => simp [mins, ih]
theorem mins_drop (ds : List Int) (p : Nat) (h : p < ds.length) : mins p (ds.drop p) = pickM ds[p] p (mins (p + 1) (ds.drop (p + 1))) :: mins (p + 1) (ds.drop (p + 1)) := by
  rw [List.drop_eq_getElem_cons h]; rfl
/-- what is named is where it says -/
theorem mins_ok (i : Nat) (ds : List Int) : ∀ q ∈ mins i ds, i ≤ q.2 ∧ ∃ h : q.2 - i < ds.length, ds[q.2 - i] = q.1 := by
  induction ds generalizing i with
  | nil => simp [mins]
  | cons d r ih =>
    intro q hq
    simp only [mins] at hq
    rcases List.mem_cons.1 hq with rfl | hq
    · cases hm : mins (i + 1) r with
      | nil => simp [pickM]
      | cons e m =>
        obtain ⟨e, j⟩ := e
        simp only [pickM]
        split
        · simp
        · have := ih (i + 1) (e, j) (by rw [hm]; simp)
          obtain ⟨h1, h2, h3⟩ := this
          simp only at h1 h2 h3 ⊢
          refine ⟨by omega, by simp; omega, ?_⟩
          have e1 : j - i = (j - (i + 1)) + 1 := by omega
          simp only [e1, List.getElem_cons_succ]
          exact h3
    · obtain ⟨h1, h2, h3⟩ := ih (i + 1) q hq
      refine ⟨by omega, by simp; omega, ?_⟩
      have e1 : q.2 - i = (q.2 - (i + 1)) + 1 := by omega
      simp only [e1, List.getElem_cons_succ]
      exact h3
theorem mins_head (ds : List Int) (p : Nat) (q : Int × Nat) (m : List (Int × Nat)) (h : mins p (ds.drop p) = q :: m) : p ≤ q.2 ∧ ∃ h : q.2 < ds.length, ds[q.2] = q.1 := by
  obtain ⟨h1, h2, h3⟩ := mins_ok p (ds.drop p) q (by rw [h]; simp)
  refine ⟨h1, by rw [List.length_drop] at h2; omega, ?_⟩
  rw [List.getElem_drop] at h3
  simpa [show p + (q.2 - p) = q.2 by omega] using h3
def shown (ds : List Int) : List Int := (mins 0 ds).map (·.1)
def whys (ds : List Int) : List Int := (mins 0 ds).map (fun q => (q.2 : Int))
/-- the rounds of slices.Backward -/
def downs (ds : List Int) : List (Nat × Int) := (List.range ds.length).map fun k => (ds.length - 1 - k, ds[ds.length - 1 - k]?.getD 0)
theorem downs_length (ds : List Int) : (downs ds).length = ds.length := by simp [downs]
theorem downs_at (ds : List Int) (k : Nat) (h : k < (downs ds).length) (p : Nat) (hp : p + k + 1 = ds.length) (hpl : p < ds.length) : (downs ds)[k] = (p, ds[p]) := by
  simp only [downs, List.getElem_map, List.getElem_range]
  rw [show ds.length - 1 - k = p by omega, List.getElem?_eq_getElem (by omega)]
  rfl
end Pl
end Go.Proofs.Ytofllhbcediafaa

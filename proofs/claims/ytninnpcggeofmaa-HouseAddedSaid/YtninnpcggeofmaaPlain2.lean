/- Plain mathematics of layer 36: which decisions bind, what the verdict is. -/
import Derived.Test.YtninnpcggeofmaaPlain
namespace Go.Proofs.Ytninnpcggeofmaa
set_option linter.unusedVariables false
set_option linter.unusedSimpArgs false
namespace Hh
def binds (q : Qq) (h : Hh) : Bool := cov h q && decide (h.known ≤ q.known)
def bnd (l : List Hh) (q : Qq) : List Hh := l.filter (binds q)
/-- the greatest number of a kind -/
def lastN (kind : Int) (l : List Hh) : Int := l.foldl (fun no h => if h.kind = kind then max no h.no else no) (-1)
/-- the first number of a kind above another one -/
def firstN (kind above : Int) : List Hh → Int
  | [] => -1
  | h :: r => if h.kind = kind ∧ above < h.no then h.no else firstN kind above r
/-- the first delay that holds -/
def delayN (q : Qq) : List Hh → Int
  | [] => -1
  | h :: r => if h.kind = 3 ∧ q.at_ < q.beg + h.ms then h.no else delayN q r
structure Vd where
  v : Int
  no : Int
  e : Int
def verB (b : List Hh) (q : Qq) : Vd :=
  if 0 ≤ firstN 1 (lastN 5 b) b then ⟨2, firstN 1 (lastN 5 b) b, 0⟩
  else if 0 ≤ firstN 2 (-1) b ∧ lastN 4 b < 0 then ⟨2, firstN 2 (-1) b, 0⟩
  else if 0 ≤ delayN q b then ⟨1, delayN q b, 0⟩ else ⟨0, -1, 0⟩
def ver (l : List Hh) (q : Qq) : Vd := if err l = 0 then (if askQ q = true then verB (bnd l q) q else ⟨0, 0, 1⟩) else ⟨0, 0, err l⟩
theorem lastN_snoc (kind : Int) (l : List Hh) (h : Hh) : lastN kind (l ++ [h]) = if h.kind = kind then max (lastN kind l) h.no else lastN kind l := by
  unfold lastN; rw [List.foldl_append]; rfl
theorem firstN_append (kind above : Int) (a b : List Hh) : firstN kind above (a ++ b) = if ∃ h ∈ a, h.kind = kind ∧ above < h.no then firstN kind above a else firstN kind above b := by
  induction a with
  | nil => simp
  | cons x r ih =>
    simp only [List.cons_append, firstN]
    by_cases hx : x.kind = kind ∧ above < x.no
    · rw [if_pos hx, if_pos hx, if_pos ⟨x, by simp, hx⟩]
    · rw [if_neg hx, if_neg hx, ih]
      congr 1
      simp [hx]
theorem firstN_none {kind above : Int} {l : List Hh} (h : ∀ x ∈ l, ¬ (x.kind = kind ∧ above < x.no)) : firstN kind above l = -1 := by
  induction l with
  | nil => rfl
  | cons x r ih => rw [firstN, if_neg (h x (by simp)), ih (fun y hy => h y (by simp [hy]))]
theorem firstN_drop {kind above : Int} {l : List Hh} {k : Nat} (h : ∀ x ∈ l.take k, ¬ (x.kind = kind ∧ above < x.no)) : firstN kind above l = firstN kind above (l.drop k) := by
  conv => lhs; rw [← List.take_append_drop k l]
  rw [firstN_append, if_neg]
  rintro ⟨x, hx, h2⟩
  exact h x hx h2
theorem delayN_drop {q : Qq} {l : List Hh} {k : Nat} (h : ∀ x ∈ l.take k, ¬ (x.kind = 3 ∧ q.at_ < q.beg + x.ms)) : delayN q l = delayN q (l.drop k) := by
  induction k generalizing l with
  | zero => rfl
  | succ k ih =>
    cases l with
    | nil => rfl
    | cons x r =>
      rw [delayN, if_neg (h x (by simp)), List.drop_succ_cons]
      exact ih (fun y hy => h y (by simp [hy]))
theorem bnd_right {l : List Hh} {q : Qq} {h : Hh} (hm : h ∈ bnd l q) : right h = true := by
  have := (List.mem_filter.1 hm).2
  simp [binds, cov] at this
  exact this.1.1.1
end Hh
end Go.Proofs.Ytninnpcggeofmaa

/- Plain mathematics of layer 1: values of bearable size; what formed finds. -/
import Derived.Test.YtnnddmhimnekaaaPlain
namespace Go.Proofs.Ytnnddmhimnekaaa
set_option linter.unusedVariables false
set_option linter.unusedSimpArgs false
namespace Cd
mutual
def fits : Vl → Prop
  | .mk k n s l => l.length ≤ 1000000 ∧ s.size ≤ 1000000 ∧ (-9223372036854775808 ≤ n ∧ n ≤ 9223372036854775807) ∧ fitsL l
def fitsL : List Vl → Prop
  | [] => True
  | x :: r => fits x ∧ fitsL r
end
theorem fitsL_iff (l : List Vl) : fitsL l ↔ ∀ x ∈ l, fits x := by
  induction l with
  | nil => simp [fitsL]
  | cons x r ih => rw [fitsL, ih]; simp
theorem fits_mk {k n : Int} {s : ByteArray} {l : List Vl} : fits (.mk k n s l) ↔ l.length ≤ 1000000 ∧ s.size ≤ 1000000 ∧ (-9223372036854775808 ≤ n ∧ n ≤ 9223372036854775807) ∧ ∀ x ∈ l, fits x := by
  rw [fits, fitsL_iff]
/-- what formed returns -/
def fd (v : Vl) : Nat := if formed v = true then depth v else 0
theorem formed_bad {k n : Int} {s : ByteArray} {l : List Vl} (h : k < 1 ∨ 3 < k) : formed (.mk k n s l) = false := by
  rw [formed, if_neg (by omega), if_neg (by omega), if_neg (by omega)]
theorem formed_1 (n : Int) (s : ByteArray) (l : List Vl) : formed (.mk 1 n s l) = (decide (s.size = 0) && l.isEmpty) := by rw [formed, if_pos rfl]
theorem formed_2 (n : Int) (s : ByteArray) (l : List Vl) : formed (.mk 2 n s l) = (decide (n = 0) && l.isEmpty) := by rw [formed, if_neg (by omega), if_pos rfl]
theorem formed_3 (n : Int) (s : ByteArray) (l : List Vl) : formed (.mk 3 n s l) = (decide (n = 0) && decide (s.size = 0) && formedL l) := by rw [formed, if_neg (by omega), if_neg (by omega), if_pos rfl]
theorem depth_3 (n : Int) (s : ByteArray) (l : List Vl) : depth (.mk 3 n s l) = depthL l + 1 := by rw [depth, if_pos rfl]
theorem depth_0 {k : Int} (n : Int) (s : ByteArray) (l : List Vl) (h : k ≠ 3) : depth (.mk k n s l) = 0 := by rw [depth, if_neg h]
theorem depthL_le (l : List Vl) (k : Nat) (h : k < l.length) : depth l[k] ≤ depthL l := by
  have h1 := depthL_take l k h
  have h2 : depthL (l.take (k + 1)) ≤ depthL l := by
    have e : l = l.take (k + 1) ++ l.drop (k + 1) := (List.take_append_drop _ _).symm
    have := depthL_append (l.take (k + 1)) (l.drop (k + 1))
    rw [← e] at this
    omega
  omega
theorem depthL_take_le (l : List Vl) (k : Nat) : depthL (l.take k) ≤ depthL l := by
  have e : l = l.take k ++ l.drop k := (List.take_append_drop _ _).symm
  have := depthL_append (l.take k) (l.drop k)
  rw [← e] at this
  omega
theorem size0 (s : ByteArray) : s.size = 0 ↔ s = ByteArray.empty := by
  constructor
  · intro h
    cases s with
    | mk d => cases d with
      | mk l => cases l with
        | nil => rfl
        | cons a r => simp [ByteArray.size] at h
  · rintro rfl; rfl
end Cd
end Go.Proofs.Ytnnddmhimnekaaa

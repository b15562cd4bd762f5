/- Plain mathematics of layer 50: what is withdrawn. -/
import Derived.Test.YtofllhbcediafaaPlain2
namespace Go.Proofs.Ytofllhbcediafaa
namespace Pl
def gone (t : Int) (y : Life) : Bool := decide (y.2 < 1099511627776) && decide (t < y.2)
def lostW (i : Nat) (t : Int) : List Life → List Nat
  | [] => []
  | y :: r => if gone t y = true then i :: lostW i t r else lostW i t r
def lostF : Nat → List (List Life) → List Int → List Nat
  | _, [], _ => []
  | i, x :: l, s => lostW i (s.headD 0) x ++ lostF (i + 1) l s.tail
def withdrawn (l : List (List Life)) (s : List Int) : Int := (lostF 0 l s).length

theorem lostW_append (i : Nat) (t : Int) (a b : List Life) : lostW i t (a ++ b) = lostW i t a ++ lostW i t b := by
  induction a with
  | nil => rfl
  | cons y a ih => simp only [List.cons_append, lostW, ih]; split <;> simp
theorem lostF_append (i : Nat) (a b : List (List Life)) (s : List Int) : lostF i (a ++ b) s = lostF i a s ++ lostF (i + a.length) b (s.drop a.length) := by
  induction a generalizing i s with
  | nil => simp [lostF]
  | cons x a ih =>
    simp only [List.cons_append, lostF, ih, List.append_assoc, List.length_cons]
    rw [show i + 1 + a.length = i + (a.length + 1) by omega, ← List.drop_tail]
theorem lostF_split (l : List (List Life)) (s : List Int) (k : Nat) (h : k < l.length) (h' : k < s.length) :
    lostF 0 l s = lostF 0 (l.take k) s ++ (lostW k s[k] l[k] ++ lostF (k + 1) (l.drop (k + 1)) (s.drop (k + 1))) := by
  have e : l = l.take k ++ (l[k] :: l.drop (k + 1)) := by rw [List.getElem_cons_drop, List.take_append_drop]
  have := lostF_append 0 (l.take k) (l[k] :: l.drop (k + 1)) s
  rw [← e] at this
  rw [this]
  have hk : (l.take k).length = k := by simp; omega
  simp only [hk, Nat.zero_add, lostF, headD_drop s k h', List.tail_drop]
theorem lostF_take (l : List (List Life)) (s : List Int) (k : Nat) (h : k < l.length) (h' : k < s.length) :
    lostF 0 (l.take (k + 1)) s = lostF 0 (l.take k) s ++ lostW k s[k] l[k] := by
  rw [List.take_succ_eq_append_getElem h, lostF_append]
  have hk : (l.take k).length = k := by simp; omega
  simp only [hk, Nat.zero_add, lostF, headD_drop s k h', List.append_nil]
theorem lostW_take (i : Nat) (t : Int) (x : List Life) (j : Nat) (h : j < x.length) : lostW i t (x.take (j + 1)) = lostW i t (x.take j) ++ (if gone t x[j] = true then [i] else []) := by
  rw [List.take_succ_eq_append_getElem h, lostW_append]
  simp only [lostW]
theorem lostW_split (i : Nat) (t : Int) (x : List Life) (j : Nat) (h : j < x.length) (hg : gone t x[j] = true) : lostW i t x = lostW i t (x.take j) ++ (i :: lostW i t (x.drop (j + 1))) := by
  have e : x = x.take j ++ (x[j] :: x.drop (j + 1)) := by rw [List.getElem_cons_drop, List.take_append_drop]
  have := lostW_append i t (x.take j) (x[j] :: x.drop (j + 1))
  rw [← e] at this
  rw [this]
  simp only [lostW, hg, if_true]
theorem lost_at (l : List (List Life)) (s : List Int) (k : Nat) (h : k < l.length) (h' : k < s.length) (j : Nat) (hj : j < l[k].length) (hg : gone s[k] l[k][j] = true) :
    ∃ hp : (lostF 0 (l.take k) s).length + (lostW k s[k] (l[k].take j)).length < (lostF 0 l s).length, (lostF 0 l s)[(lostF 0 (l.take k) s).length + (lostW k s[k] (l[k].take j)).length] = k := by
  have e1 := lostF_split l s k h h'
  have e2 := lostW_split k s[k] l[k] j hj hg
  rw [e2] at e1
  refine ⟨by rw [e1]; simp, ?_⟩
  rw [List.getElem_of_eq e1]
  rw [List.getElem_append_right (by omega)]
  simp
end Pl
end Go.Proofs.Ytofllhbcediafaa

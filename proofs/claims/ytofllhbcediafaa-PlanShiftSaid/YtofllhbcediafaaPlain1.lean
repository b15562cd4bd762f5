/- Plain mathematics of layer 50: lives, step by step. -/
import Derived.Test.YtofllhbcediafaaPlain
namespace Go.Proofs.Ytofllhbcediafaa
namespace Pl
def lastL (last : Int) : List Life → Int
  | [] => last
  | y :: r => lastL y.2 r
def step (q : Int) (y : Life) : Bool := decide (y.1 = q) && decide (0 ≤ y.1) && decide (y.1 < y.2) && decide (y.2 ≤ 1099511627776)
theorem chain_append (last : Int) (a b : List Life) : chain last (a ++ b) = (chain last a && chain (lastL last a) b) := by
  induction a generalizing last with
  | nil => simp [chain, lastL]
  | cons y r ih => simp only [List.cons_append, chain, lastL, ih, Bool.and_assoc]
theorem lastL_append (last : Int) (a : List Life) (y : Life) : lastL last (a ++ [y]) = y.2 := by
  induction a generalizing last with
  | nil => rfl
  | cons z r ih => exact ih z.2
theorem chain_one (q : Int) (y : Life) : chain q [y] = step q y := by simp [chain, step]
theorem chain_step (last : Int) (x : List Life) (j : Nat) (h : j < x.length) : chain last (x.take (j + 1)) = (chain last (x.take j) && step (lastL last (x.take j)) x[j]) := by
  rw [List.take_succ_eq_append_getElem h, chain_append, chain_one]
theorem lastL_step (last : Int) (x : List Life) (j : Nat) (h : j < x.length) : lastL last (x.take (j + 1)) = x[j].2 := by
  rw [List.take_succ_eq_append_getElem h, lastL_append]
theorem chain_no (last : Int) (x : List Life) (j : Nat) (h : j < x.length) (hs : step (lastL last (x.take j)) x[j] = false) : chain last x = false := by
  have e : x = x.take j ++ ([x[j]] ++ x.drop (j + 1)) := by
    rw [List.singleton_append, List.getElem_cons_drop, List.take_append_drop]
  rw [e, chain_append, chain_append, chain_one, hs]
  simp
theorem wordOk_no (x : List Life) (d : Int) (j : Nat) (h : j < x.length) (hs : step (lastL (born x) (x.take j)) x[j] = false) : wordOk x d = false := by
  simp [wordOk, chain_no (born x) x j h hs]
theorem born_eq (x : List Life) (h : 0 < x.length) : born x = (x[0]'h).1 := by
  cases x with
  | nil => simp at h
  | cons y r => rfl
end Pl
end Go.Proofs.Ytofllhbcediafaa

/- Plain mathematics of layer 50: a plan is in time. -/
import Derived.Test.YtofllhbcediafaaPlain1
namespace Go.Proofs.Ytofllhbcediafaa
namespace Pl
def tOk (last b d t : Int) : Bool := decide (max last b ≤ t) && decide (t ≤ d)
def inT : Int → List (List Life) → List Int → List Int → Bool
  | _, _, _, [] => true
  | last, l, ds, t :: s => tOk last (born (l.headD [])) (ds.headD 0) t && inT t l.tail ds.tail s
def inTime (l : List (List Life)) (ds s : List Int) : Bool := decide (s.length = l.length) && inT 0 l ds s
def lastS (last : Int) : List Int → Int
  | [] => last
  | t :: s => lastS t s
theorem lastS_snoc (last : Int) (s : List Int) (t : Int) : lastS last (s ++ [t]) = t := by
  induction s generalizing last with
  | nil => rfl
  | cons a s ih => exact ih a
theorem inT_snoc (last : Int) (l : List (List Life)) (ds s : List Int) (t : Int) :
    inT last l ds (s ++ [t]) = (inT last l ds s && tOk (lastS last s) (born ((l.drop s.length).headD [])) ((ds.drop s.length).headD 0) t) := by
  induction s generalizing last l ds with
  | nil => simp [inT, lastS]
  | cons a s ih =>
    simp only [List.cons_append, inT, ih, lastS, List.length_cons, Bool.and_assoc]
    rw [← List.drop_tail, ← List.drop_tail]
theorem headD_drop {α : Type} (l : List α) (k : Nat) (h : k < l.length) (d : α) : (l.drop k).headD d = l[k] := by
  rw [List.drop_eq_getElem_cons h]; rfl
theorem inT_take (last : Int) (l : List (List Life)) (ds s : List Int) (k : Nat) (h : k < s.length) (h1 : k < l.length) (h2 : k < ds.length) :
    inT last l ds (s.take (k + 1)) = (inT last l ds (s.take k) && tOk (lastS last (s.take k)) (born l[k]) ds[k] s[k]) := by
  rw [List.take_succ_eq_append_getElem h, inT_snoc]
  have e : (s.take k).length = k := by simp; omega
  rw [e, headD_drop l k h1, headD_drop ds k h2]
theorem lastS_take (last : Int) (s : List Int) (k : Nat) (h : k < s.length) : lastS last (s.take (k + 1)) = s[k] := by
  rw [List.take_succ_eq_append_getElem h, lastS_snoc]
theorem inT_append (last : Int) (l : List (List Life)) (ds a b : List Int) : inT last l ds (a ++ b) = (inT last l ds a && inT (lastS last a) (l.drop a.length) (ds.drop a.length) b) := by
  induction a generalizing last l ds with
  | nil => simp [inT, lastS]
  | cons t a ih =>
    simp only [List.cons_append, inT, ih, lastS, List.length_cons, Bool.and_assoc]
    rw [← List.drop_tail, ← List.drop_tail]
theorem inT_no (last : Int) (l : List (List Life)) (ds s : List Int) (k : Nat) (h : k < s.length) (h1 : k < l.length) (h2 : k < ds.length) (hn : tOk (lastS last (s.take k)) (born l[k]) ds[k] s[k] = false) : inT last l ds s = false := by
  have e : s = s.take (k + 1) ++ s.drop (k + 1) := (List.take_append_drop _ _).symm
  rw [e, inT_append, inT_take last l ds s k h h1 h2, hn]
  simp
end Pl
end Go.Proofs.Ytofllhbcediafaa

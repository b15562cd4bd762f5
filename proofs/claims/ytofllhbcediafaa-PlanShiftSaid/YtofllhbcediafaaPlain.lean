/- Plain mathematics of layer 50: words, dues, plans. No program in sight. -/
namespace Go.Proofs.Ytofllhbcediafaa
namespace Pl
abbrev Life := Int × Int

/-- the lives of a word follow each other from a time on -/
def chain : Int → List Life → Bool
  | _, [] => true
  | last, y :: r => decide (y.1 = last) && decide (0 ≤ y.1) && decide (y.1 < y.2) && decide (y.2 ≤ 1099511627776) && chain y.2 r

def born (x : List Life) : Int := match x with | [] => 0 | y :: _ => y.1

def wordOk (x : List Life) (d : Int) : Bool := decide (0 < x.length) && decide (0 ≤ d) && decide (d < 1099511627776) && chain (born x) x

def allOk : List (List Life) → List Int → Bool
  | [], _ => true
  | x :: l, ds => wordOk x (match ds with | [] => 0 | d :: _ => d) && allOk l ds.tail

def long (x : List Life) : Bool := decide (16 < x.length)

def err (l : List (List Life)) (ds : List Int) : Int :=
  if 1024 < l.length || l.any long then 2 else if ds.length = l.length then (if allOk l ds then 0 else 500) else 500

theorem allOk_take (l : List (List Life)) (ds : List Int) (k : Nat) (h : k < l.length) (h' : k < ds.length) :
    allOk (l.take (k + 1)) ds = (allOk (l.take k) ds && wordOk l[k] ds[k]) := by
  induction l generalizing ds k with
  | nil => simp at h
  | cons x l ih =>
    cases ds with
    | nil => simp at h'
    | cons d ds =>
      cases k with
      | zero => simp [allOk]
      | succ k =>
        have := ih ds k (by simpa using h) (by simpa using h')
        simp only [List.take_succ_cons, allOk, List.tail_cons, List.getElem_cons_succ, this, Bool.and_assoc]

theorem allOk_false (l : List (List Life)) (ds : List Int) (k : Nat) (h : k < l.length) (h' : k < ds.length) (hw : wordOk l[k] ds[k] = false) : allOk l ds = false := by
  induction l generalizing ds k with
  | nil => simp at h
  | cons x l ih =>
    cases ds with
    | nil => simp at h'
    | cons d ds =>
      cases k with
      | zero =>
        simp only [List.getElem_cons_zero] at hw
        simp [allOk, hw]
      | succ k =>
        have := ih ds k (by simpa using h) (by simpa using h') (by simpa using hw)
        simp [allOk, this]

theorem chain_take (last : Int) (x : List Life) (k : Nat) (h : k < x.length) : chain last x = (chain last (x.take k) && chain (if k = 0 then last else (x[k - 1]'(by omega)).2) (x.drop k)) := by
  induction x generalizing last k with
  | nil => simp at h
  | cons y r ih =>
    cases k with
    | zero => simp [chain]
    | succ k =>
      by_cases hk : k = 0
      · subst hk
        simp [chain]
      · have := ih y.2 k (by simpa using h)
        rw [if_neg hk] at this
        simp only [chain, List.take_succ_cons, List.drop_succ_cons, this, if_neg (Nat.succ_ne_zero k)]
        have e : (y :: r)[k + 1 - 1]'(by simp at h ⊢; omega) = r[k - 1]'(by simp at h; omega) := by
          cases k with
          | zero => omega
          | succ k => simp
        rw [e]
        simp only [Bool.and_assoc]
end Pl
end Go.Proofs.Ytofllhbcediafaa

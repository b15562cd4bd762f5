/- Plain mathematics of layer 44: levels and divisions. No program in sight. -/
namespace Go.Proofs.Ytagbdjdphghflaa
namespace Pl

def sumMin (n : Int) : List Int → Int
  | [] => 0
  | d :: r => min d n + sumMin n r

def most : List Int → Int → Int
  | [], m => m
  | d :: r, m => most r (max m d)

/-- the number is from 0 to 2^40 -/
def okN (n : Int) : Bool := decide (0 ≤ n) && decide (n ≤ 1099511627776)

def err (c : Int) (ds : List Int) : Int :=
  if 32 < ds.length then 2 else if okN c && ds.all okN then 0 else 440

/-- the greatest level at most k for which all get at most c; 0 if there is none -/
def lev (c : Int) (ds : List Int) : Nat → Int
  | 0 => 0
  | k + 1 => if sumMin (k + 1 : Nat) ds ≤ c then ((k + 1 : Nat) : Int) else lev c ds k

def level (c : Int) (ds : List Int) : Int := lev c ds (most ds 0).toNat

def dv (n : Int) : Int → List Int → List Int
  | _, [] => []
  | left, d :: r => if n < d ∧ 0 < left then (n + 1) :: dv n (left - 1) r else min d n :: dv n left r

def divide (c : Int) (ds : List Int) : List Int := dv (level c ds) (c - sumMin (level c ds) ds) ds

theorem sumMin_append (n : Int) (l r : List Int) : sumMin n (l ++ r) = sumMin n l + sumMin n r := by
  induction l with
  | nil => simp [sumMin]
  | cons a l ih => simp only [List.cons_append, sumMin, ih]; omega
theorem sumMin_snoc (n : Int) (l : List Int) (x : Int) : sumMin n (l ++ [x]) = sumMin n l + min x n := by
  rw [sumMin_append]; simp [sumMin]
theorem sumMin_take (n : Int) (l : List Int) (k : Nat) (h : k < l.length) : sumMin n (l.take (k + 1)) = sumMin n (l.take k) + min l[k] n := by
  rw [List.take_succ_eq_append_getElem h, sumMin_snoc]
theorem sumMin_bd (n : Int) (l : List Int) (h : ∀ x ∈ l, 0 ≤ x ∧ x ≤ 1099511627776) (hn : 0 ≤ n) : 0 ≤ sumMin n l ∧ sumMin n l ≤ 1099511627776 * l.length := by
  induction l with
  | nil => simp [sumMin]
  | cons a l ih =>
    have h1 := h a (by simp)
    have h2 := ih (fun x hx => h x (by simp [hx]))
    simp only [sumMin, List.length_cons]; omega
theorem sumMin_mono (m n : Int) (h : m ≤ n) (l : List Int) : sumMin m l ≤ sumMin n l := by
  induction l with
  | nil => simp [sumMin]
  | cons a l ih => simp only [sumMin]; omega
theorem most_snoc (l : List Int) (m x : Int) : most (l ++ [x]) m = max (most l m) x := by
  induction l generalizing m with
  | nil => simp [most]
  | cons a l ih => simp [most, ih]
theorem most_take (l : List Int) (k : Nat) (m : Int) (h : k < l.length) : most (l.take (k + 1)) m = max (most (l.take k) m) l[k] := by
  rw [List.take_succ_eq_append_getElem h, most_snoc]
theorem le_most (l : List Int) (m : Int) : m ≤ most l m ∧ ∀ x ∈ l, x ≤ most l m := by
  induction l generalizing m with
  | nil => simp [most]
  | cons a l ih =>
    have := ih (max m a)
    simp only [most]
    refine ⟨by omega, fun x hx => ?_⟩
    rcases List.mem_cons.1 hx with rfl | hx
    · omega
    · exact this.2 x hx
theorem most_bd (l : List Int) (m : Int) (hm : 0 ≤ m ∧ m ≤ 1099511627776) (h : ∀ x ∈ l, 0 ≤ x ∧ x ≤ 1099511627776) : 0 ≤ most l m ∧ most l m ≤ 1099511627776 := by
  induction l generalizing m with
  | nil => simpa [most] using hm
  | cons a l ih =>
    have h1 := h a (by simp)
    exact ih (max m a) (by omega) (fun x hx => h x (by simp [hx]))
theorem sumMin_ge (l : List Int) (n : Int) (h : ∀ x ∈ l, x ≤ n) : ∀ m, n ≤ m → sumMin m l = sumMin n l := by
  induction l with
  | nil => simp [sumMin]
  | cons a l ih =>
    intro m hm
    have := h a (by simp)
    simp only [sumMin, ih (fun x hx => h x (by simp [hx])) m hm]; omega

theorem lev_spec (c : Int) (ds : List Int) (k : Nat) (hc : 0 ≤ c) (h0 : sumMin 0 ds ≤ 0) :
    0 ≤ lev c ds k ∧ lev c ds k ≤ k ∧ sumMin (lev c ds k) ds ≤ c ∧ ∀ n : Int, lev c ds k < n → n ≤ k → c < sumMin n ds := by
  induction k with
  | zero => simp only [lev]; refine ⟨by omega, by omega, by omega, fun n h1 h2 => by omega⟩
  | succ k ih =>
    simp only [lev]
    split
    · rename_i h
      exact ⟨by omega, by omega, h, fun n h1 h2 => by omega⟩
    · rename_i h
      refine ⟨ih.1, by omega, ih.2.2.1, fun n h1 h2 => ?_⟩
      by_cases hn : n = (k + 1 : Nat)
      · subst hn; omega
      · exact ih.2.2.2 n h1 (by omega)
/-- what makes a level: unique -/
theorem lev_unique (c : Int) (ds : List Int) (k : Nat) (n : Int) (h1 : 0 ≤ n) (h2 : n ≤ k) (h3 : sumMin n ds ≤ c) (h4 : ∀ m : Int, n < m → m ≤ k → c < sumMin m ds) : lev c ds k = n := by
  induction k with
  | zero => simp only [lev]; omega
  | succ k ih =>
    simp only [lev]
    split
    · rename_i h
      by_cases hn : n = (k + 1 : Nat)
      · exact hn.symm
      · have := h4 (k + 1 : Nat) (by omega) (by omega); omega
    · rename_i h
      by_cases hn : n = (k + 1 : Nat)
      · subst hn; omega
      · exact ih (by omega) (fun m hm hk => h4 m hm (by omega))
theorem sumMin_zero (l : List Int) (h : ∀ x ∈ l, 0 ≤ x) : sumMin 0 l = 0 := by
  induction l with
  | nil => rfl
  | cons a l ih =>
    have := h a (by simp)
    simp only [sumMin, ih (fun x hx => h x (by simp [hx]))]; omega

end Pl
end Go.Proofs.Ytagbdjdphghflaa
namespace Go.Proofs.Ytagbdjdphghflaa
namespace Pl
/-- the places of the demands that are greater than n -/
def want (n : Int) : Nat → List Int → List Nat
  | _, [] => []
  | s, d :: r => if n < d then s :: want n (s + 1) r else want n (s + 1) r
theorem want_append (n : Int) (l r : List Int) (s : Nat) : want n s (l ++ r) = want n s l ++ want n (s + l.length) r := by
  induction l generalizing s with
  | nil => simp [want]
  | cons a l ih =>
    simp only [List.cons_append, want, ih, List.length_cons]
    rw [show s + 1 + l.length = s + (l.length + 1) by omega]
    split <;> simp
theorem want_split (n : Int) (xs : List Int) (k : Nat) (h : k < xs.length) : want n 0 xs = want n 0 (xs.take k) ++ want n k (xs[k] :: xs.drop (k + 1)) := by
  have e : xs = xs.take k ++ (xs[k] :: xs.drop (k + 1)) := by rw [List.getElem_cons_drop, List.take_append_drop]
  have := want_append n (xs.take k) (xs[k] :: xs.drop (k + 1)) 0
  rw [← e] at this
  rw [this]
  simp [List.length_take, Nat.min_eq_left (Nat.le_of_lt h)]
theorem want_take (n : Int) (xs : List Int) (k : Nat) (h : k < xs.length) : want n 0 (xs.take (k + 1)) = want n 0 (xs.take k) ++ (if n < xs[k] then [k] else []) := by
  rw [List.take_succ_eq_append_getElem h, want_append]
  simp only [List.length_take, Nat.min_eq_left (Nat.le_of_lt h), Nat.zero_add, want]
theorem want_at (n : Int) (xs : List Int) (k : Nat) (h : k < xs.length) (hn : n < xs[k]) :
    ∃ hl : (want n 0 (xs.take k)).length < (want n 0 xs).length, (want n 0 xs)[(want n 0 (xs.take k)).length] = k := by
  have e := want_split n xs k h
  simp only [want, hn, if_true] at e
  refine ⟨by rw [e]; simp, ?_⟩
  simp [e]
theorem want_length (n : Int) (xs : List Int) (s : Nat) : (want n s xs).length ≤ xs.length := by
  induction xs generalizing s with
  | nil => simp [want]
  | cons a l ih =>
    have := ih (s + 1)
    simp only [want]
    split <;> simp <;> omega
theorem want_lt (n : Int) (xs : List Int) (s : Nat) : ∀ i ∈ want n s xs, s ≤ i ∧ i < s + xs.length := by
  induction xs generalizing s with
  | nil => simp [want]
  | cons a l ih =>
    intro i hi
    simp only [want] at hi
    split at hi
    · rcases List.mem_cons.1 hi with rfl | hi
      · simp
      · have := ih (s + 1) i hi; simp only [List.length_cons]; omega
    · have := ih (s + 1) i hi; simp only [List.length_cons]; omega
end Pl
end Go.Proofs.Ytagbdjdphghflaa
namespace Go.Proofs.Ytagbdjdphghflaa
namespace Pl
/-- the places of is made greater by 1 -/
def bump : List Nat → List Int → List Int
  | [], l => l
  | i :: r, l => bump r (l.set i (l[i]?.getD 0 + 1))
theorem bump_append (a b : List Nat) (l : List Int) : bump (a ++ b) l = bump b (bump a l) := by
  induction a generalizing l with
  | nil => rfl
  | cons i r ih => simp only [List.cons_append, bump, ih]
theorem bump_length (a : List Nat) (l : List Int) : (bump a l).length = l.length := by
  induction a generalizing l with
  | nil => rfl
  | cons i r ih => simp [bump, ih]
theorem bump_bd (a : List Nat) (l : List Int) (M : Int) (h : ∀ i : Nat, 0 ≤ l[i]?.getD 0 ∧ l[i]?.getD 0 ≤ M) : ∀ i : Nat, 0 ≤ (bump a l)[i]?.getD 0 ∧ (bump a l)[i]?.getD 0 ≤ M + a.length := by
  induction a generalizing l M with
  | nil => simpa [bump] using h
  | cons i r ih =>
    intro j
    have := ih (l.set i (l[i]?.getD 0 + 1)) (M + 1) (fun j => by
      rw [List.getElem?_set]
      have h1 := h i
      have h2 := h j
      split
      · split
        · simp; omega
        · simp; omega
      · omega) j
    simp only [bump, List.length_cons]
    omega
theorem bump_take_succ (is : List Nat) (k : Nat) (hk : k < is.length) (l : List Int) : bump (is.take (k + 1)) l = (bump (is.take k) l).set is[k] ((bump (is.take k) l)[is[k]]?.getD 0 + 1) := by
  rw [List.take_succ_eq_append_getElem hk, bump_append]; rfl
theorem bump_pre (is : List Nat) (pre l : List Int) (h : ∀ i ∈ is, pre.length ≤ i) : bump is (pre ++ l) = pre ++ bump (is.map (· - pre.length)) l := by
  induction is generalizing l with
  | nil => rfl
  | cons i r ih =>
    have hi := h i (by simp)
    simp only [bump, List.map_cons]
    rw [List.getElem?_append_right hi, List.set_append_right _ _ hi, ih _ (fun j hj => h j (by simp [hj]))]
theorem want_shift (n : Int) (xs : List Int) (s t : Nat) : (want n (s + t) xs) = (want n s xs).map (· + t) := by
  induction xs generalizing s with
  | nil => rfl
  | cons a l ih =>
    simp only [want]
    rw [show s + t + 1 = (s + 1) + t by omega, ih (s + 1)]
    split <;> simp
theorem dv_bump (n : Int) (xs : List Int) (L : Nat) : dv n (L : Int) xs = bump ((want n 0 xs).take L) (xs.map (min · n)) := by
  induction xs generalizing L with
  | nil => simp [dv, want, bump]
  | cons d r ih =>
    have hsh := want_shift n r 0 1
    simp only [Nat.zero_add] at hsh
    have hpre : ∀ (is : List Nat) (x : Int), bump (is.map (· + 1)) (x :: r.map (min · n)) = x :: bump is (r.map (min · n)) := by
      intro is x
      have := bump_pre (is.map (· + 1)) [x] (r.map (min · n)) (by simp)
      simpa [List.map_map, Function.comp_def] using this
    by_cases h : n < d
    · cases L with
      | zero =>
        have := ih 0
        simp only [List.take_zero, bump] at this ⊢
        simp only [dv, List.map_cons]
        rw [if_neg (by omega)]
        simpa using this
      | succ L =>
        have := ih L
        have e : dv n ((L + 1 : Nat) : Int) (d :: r) = (n + 1) :: dv n (((L + 1 : Nat) : Int) - 1) r := by simp only [dv]; rw [if_pos ⟨h, by omega⟩]
        rw [e]
        simp only [want, h, if_true, List.map_cons, List.take_succ_cons, bump, hsh, Nat.zero_add]
        rw [← List.map_take]
        simp only [List.getElem?_cons_zero, Option.getD_some, List.set_cons_zero]
        rw [hpre, show min d n + 1 = n + 1 by omega, show (((L + 1 : Nat) : Int) - 1) = (L : Int) by omega, this]
    · have := ih L
      simp only [dv, want, h, if_false, List.map_cons, hsh, Nat.zero_add, false_and]
      rw [← List.map_take, hpre, this]
end Pl
end Go.Proofs.Ytagbdjdphghflaa
namespace Go.Proofs.Ytagbdjdphghflaa
namespace Pl
/-- what is left behind the demands -/
def lf (n : Int) : Int → List Int → Int
  | left, [] => left
  | left, d :: r => if n < d ∧ 0 < left then lf n (left - 1) r else lf n left r
theorem dv_snoc (n left : Int) (l : List Int) (d : Int) : dv n left (l ++ [d]) = dv n left l ++ [if n < d ∧ 0 < lf n left l then n + 1 else min d n] := by
  induction l generalizing left with
  | nil => by_cases h : n < d ∧ 0 < left <;> simp [dv, lf, h]
  | cons a l ih =>
    simp only [List.cons_append, dv, lf]
    split
    · rw [ih]; rfl
    · rw [ih]; rfl
theorem lf_snoc (n left : Int) (l : List Int) (d : Int) : lf n left (l ++ [d]) = if n < d ∧ 0 < lf n left l then lf n left l - 1 else lf n left l := by
  induction l generalizing left with
  | nil => by_cases h : n < d ∧ 0 < left <;> simp [lf, h]
  | cons a l ih =>
    simp only [List.cons_append, lf]
    split
    · rw [ih]
    · rw [ih]
theorem lf_bd (n left : Int) (l : List Int) (h : 0 ≤ left) : 0 ≤ lf n left l ∧ lf n left l ≤ left := by
  induction l generalizing left with
  | nil => simpa [lf] using h
  | cons a l ih =>
    simp only [lf]
    split
    · have := ih (left - 1) (by omega); omega
    · exact ih left h
theorem dv_length (n left : Int) (l : List Int) : (dv n left l).length = l.length := by
  induction l generalizing left with
  | nil => rfl
  | cons a l ih => simp only [dv]; split <;> simp [ih]
theorem dv_take (n left : Int) (xs : List Int) (k : Nat) (h : k < xs.length) : dv n left (xs.take (k + 1)) = dv n left (xs.take k) ++ [if n < xs[k] ∧ 0 < lf n left (xs.take k) then n + 1 else min xs[k] n] := by
  rw [List.take_succ_eq_append_getElem h, dv_snoc]
theorem lf_take (n left : Int) (xs : List Int) (k : Nat) (h : k < xs.length) : lf n left (xs.take (k + 1)) = if n < xs[k] ∧ 0 < lf n left (xs.take k) then lf n left (xs.take k) - 1 else lf n left (xs.take k) := by
  rw [List.take_succ_eq_append_getElem h, lf_snoc]
end Pl
end Go.Proofs.Ytagbdjdphghflaa

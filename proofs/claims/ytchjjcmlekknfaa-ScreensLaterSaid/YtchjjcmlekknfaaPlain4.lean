/- Plain mathematics of layer 48, fourth part: groupings step by step, the order of lists. No program in sight. -/
import Derived.Test.YtchjjcmlekknfaaPlain3
namespace Go.Proofs.Ytchjjcmlekknfaa
set_option linter.unusedVariables false
set_option linter.unusedSimpArgs false
/-- a list comes before another one -/
def lexL : List Int → List Int → Bool
  | _, [] => false
  | [], _ :: _ => true
  | x :: xs, y :: ys => if x = y then lexL xs ys else decide (x < y)
theorem lexL_same {k : Nat} {xs ys : List Int} (h : xs.take k = ys.take k) (h1 : k ≤ xs.length) (h2 : k ≤ ys.length) : lexL xs ys = lexL (xs.drop k) (ys.drop k) := by
  induction k generalizing xs ys with
  | zero => rfl
  | succ k ih =>
    cases xs with
    | nil => simp at h1
    | cons x xs =>
      cases ys with
      | nil => simp at h2
      | cons y ys =>
        simp only [List.take_succ_cons, List.cons.injEq] at h
        simp only [lexL, if_pos h.1, List.drop_succ_cons]
        exact ih h.2 (by simpa using h1) (by simpa using h2)
theorem lexL_ne {k : Nat} {xs ys : List Int} (h : xs.take k = ys.take k) (h1 : k < xs.length) (h2 : k < ys.length) (hne : ¬ xs[k] = ys[k]) : lexL xs ys = decide (xs[k] < ys[k]) := by
  rw [lexL_same h (by omega) (by omega), List.drop_eq_getElem_cons h1, List.drop_eq_getElem_cons h2, lexL, if_neg hne]
theorem lexL_end {k : Nat} {xs ys : List Int} (h : xs.take k = ys.take k) (h1 : k ≤ xs.length) (h2 : k ≤ ys.length) (he : ¬ k < xs.length ∨ ¬ k < ys.length) : lexL xs ys = decide (xs.length < ys.length) := by
  rw [lexL_same h h1 h2]
  rcases Nat.lt_or_ge k ys.length with h3 | h3
  · have h4 : k = xs.length := by omega
    rw [List.drop_eq_getElem_cons h3, List.drop_eq_nil_of_le (show xs.length ≤ k by omega), lexL]
    symm; rw [decide_eq_true_eq]; omega
  · rw [List.drop_eq_nil_of_le h3]
    have : lexL (xs.drop k) [] = false := by cases xs.drop k <;> rfl
    rw [this]; symm; rw [decide_eq_false_iff_not]; omega


namespace Sc
theorem lexL_toI : ∀ (a b : List Nat), lexL (toI a) (toI b) = bef a b
  | [], [] => rfl
  | [], _ :: _ => rfl
  | _ :: _, [] => rfl
  | x :: a, y :: b => by
    simp only [toI, lexL, bef]
    by_cases h : x = y
    · subst h; rw [if_pos rfl, if_pos rfl]; exact lexL_toI a b
    · rw [if_neg (by omega), if_neg h]
      by_cases h2 : x < y
      · rw [decide_eq_true h2, decide_eq_true (by omega)]
      · rw [decide_eq_false h2, decide_eq_false (by omega)]
theorem toI_len (l : List Nat) : (toI l).length = l.length := by induction l with | nil => rfl | cons x l ih => simp only [toI, List.length_cons, ih]
theorem toI_get : ∀ (l : List Nat) (k : Nat) (h : k < l.length) (h' : k < (toI l).length), (toI l)[k] = (l[k] : Int)
  | x :: l, 0, _, _ => rfl
  | x :: l, k + 1, h, h' => by
    simp only [toI, List.getElem_cons_succ]
    exact toI_get l k (by simpa using h) _
theorem toI_append (a b : List Nat) : toI (a ++ b) = toI a ++ toI b := by induction a with | nil => rfl | cons x a ih => simp only [List.cons_append, toI, ih]
theorem toI_inj : ∀ {a b : List Nat}, toI a = toI b → a = b
  | [], [], _ => rfl
  | x :: a, y :: b, h => by
    simp only [toI, List.cons.injEq] at h
    rw [toI_inj h.2]; congr 1; omega

theorem last_snoc {es : List Nat} {k i : Nat} (h : k < es.length) : (es.take (k + 1)).getLastD i = es[k] := by
  rw [List.take_succ_eq_append_getElem h, List.getLastD_concat]
theorem grp_at {m n : Nat} : ∀ {es : List Nat} {i k : Nat}, Grp m n i es → (h : k < es.length) → (es.take k).getLastD i < es[k] ∧ es[k] ≤ n ∧ es[k] ≤ (es.take k).getLastD i + m
  | e :: es, i, 0, g, _ => by obtain ⟨a, b, c, _⟩ := g; exact ⟨a, b, c⟩
  | e :: es, i, k + 1, g, h => by
    obtain ⟨a, b, c, g⟩ := g
    have := grp_at (k := k) g (by simpa using h)
    rw [List.take_succ_cons, List.getLastD_cons, List.getElem_cons_succ]
    exact this
theorem done_snoc (q : Qs) (i : Nat) (b : Int) {es : List Nat} {k : Nat} (h : k < es.length) : doneAt q i b (es.take (k + 1)) = scr q ((es.take k).getLastD i) es[k] (doneAt q i b (es.take k)) := by
  rw [List.take_succ_eq_append_getElem h, doneAt_append, doneAt, doneAt]
theorem ok.scr_bd {q : Qs} (h : ok q) {i j : Nat} {b : Int} (hij : i < j) (hj : j ≤ q.r.length) (h0 : 0 ≤ b) (hb : b ≤ 1099511627776 + 2147483648 * i) : 0 ≤ scr q i j b ∧ scr q i j b ≤ 1099511627776 + 2147483648 * j := by
  have a1 := h.r0 (j - 1) (by omega)
  have a2 := h.sum_mono (i := i) (j := j) (by omega) hj
  have a3 := h.sum_diff (i := i) (j := j) (by omega) hj
  have a6 := h.f0
  have a7 := h.f1
  unfold scr
  split <;> omega
theorem done_bd {q : Qs} (hq : ok q) {es : List Nat} (h : Grp q.m q.r.length 0 es) : ∀ k, k ≤ es.length → 0 ≤ doneAt q 0 0 (es.take k) ∧ doneAt q 0 0 (es.take k) ≤ 1099511627776 + 2147483648 * ((es.take k).getLastD 0 : Nat) ∧ (es.take k).getLastD 0 ≤ q.r.length
  | 0, _ => ⟨Int.le_refl 0, (by decide : (0 : Int) ≤ 1099511627776 + 2147483648 * ((0 : Nat) : Int)), Nat.zero_le _⟩
  | k + 1, hk => by
    obtain ⟨a, b, c⟩ := done_bd hq h k (by omega)
    obtain ⟨g1, g2, g3⟩ := grp_at h (show k < es.length by omega)
    rw [done_snoc q 0 0 (show k < es.length by omega), last_snoc (show k < es.length by omega)]
    have := hq.scr_bd g1 g2 a b
    exact ⟨this.1, this.2, g2⟩
theorem grp_len {m n : Nat} : ∀ {es : List Nat} {i : Nat}, Grp m n i es → es.length + i ≤ n
  | [], i, g => by simp only [Grp] at g; simp; omega
  | e :: es, i, g => by obtain ⟨a, b, c, g⟩ := g; have := grp_len g; simp only [List.length_cons]; omega
end Sc
end Go.Proofs.Ytchjjcmlekknfaa

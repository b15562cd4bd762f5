/- Plain mathematics of layer 48: screens, when the first lines can be done, when they must be. No program in sight. -/
namespace Go.Proofs.Ytchjjcmlekknfaa
set_option linter.unusedVariables false
set_option linter.unusedSimpArgs false
namespace Sc

def at_ (l : List Int) (i : Nat) : Int := l.getD i 0
/-- a question: ready, need, most, flip -/
structure Qs where
  r : List Int
  d : List Int
  m : Nat
  f : Int
def sumN (d : List Int) (k : Nat) : Int := (d.take k).sum
/-- when a screen of the lines i to j - 1 ends -/
def scr (q : Qs) (i j : Nat) (b : Int) : Int := (if 0 < i then max (at_ q.r (j - 1)) (b + q.f) else at_ q.r (j - 1)) + (sumN q.d j - sumN q.d i)
/-- where a screen that ends behind a line can begin -/
def ins (m j : Nat) : List Nat := List.range' (j - m) (j - (j - m))
theorem mem_ins {m j i : Nat} : i ∈ ins m j ↔ j - m ≤ i ∧ i < j := by
  unfold ins; rw [List.mem_range'_1]; omega
/-- a right question -/
structure ok (q : Qs) : Prop where
  len : q.d.length = q.r.length
  n : q.r.length ≤ 64
  m1 : 1 ≤ q.m
  m8 : q.m ≤ 8
  f0 : 0 ≤ q.f
  f1 : q.f ≤ 1073741824
  r0 : ∀ i, i < q.r.length → 0 ≤ at_ q.r i ∧ at_ q.r i ≤ 1099511627775
  d0 : ∀ i, i < q.r.length → 0 ≤ at_ q.d i ∧ at_ q.d i ≤ 1073741824
  mono : ∀ i, i + 1 < q.r.length → at_ q.r i ≤ at_ q.r (i + 1)

theorem sumN_succ (d : List Int) (k : Nat) (h : k < d.length) : sumN d (k + 1) = sumN d k + at_ d k := by
  unfold sumN at_
  rw [List.take_succ_eq_append_getElem h, List.sum_append]
  simp [List.getD_eq_getElem?_getD, h]
theorem sumN_zero (d : List Int) : sumN d 0 = 0 := by simp [sumN]
theorem ok.sum_le {q : Qs} (h : ok q) {i : Nat} (hi : i ≤ q.r.length) : 0 ≤ sumN q.d i ∧ sumN q.d i ≤ 1073741824 * i := by
  induction i with
  | zero => simp [sumN_zero]
  | succ i ih =>
    have := ih (by omega)
    have := h.d0 i (by omega)
    rw [sumN_succ _ _ (by rw [h.len]; omega)]
    omega
theorem ok.sum_mono {q : Qs} (h : ok q) {i j : Nat} (hij : i ≤ j) (hj : j ≤ q.r.length) : sumN q.d i ≤ sumN q.d j := by
  induction hij with
  | refl => exact Int.le_refl _
  | @step j hij ih =>
    have := ih (by omega)
    have := h.d0 j (by omega)
    rw [sumN_succ _ _ (by rw [h.len]; omega)]
    omega
theorem ok.sum_diff {q : Qs} (h : ok q) {i j : Nat} (hij : i ≤ j) (hj : j ≤ q.r.length) : sumN q.d j ≤ sumN q.d i + 1073741824 * (j - i : Int) := by
  induction hij with
  | refl => omega
  | @step j hij ih =>
    have := ih (by omega)
    have := h.d0 j (by omega)
    rw [sumN_succ _ _ (by rw [h.len]; omega)]
    omega
theorem scr_mono (q : Qs) (i j : Nat) {b c : Int} (h : b ≤ c) : scr q i j b ≤ scr q i j c := by
  unfold scr; split <;> omega

/-- a grouping of the lines from i to n: each end, in order -/
def Grp (m n : Nat) : Nat → List Nat → Prop
  | i, [] => i = n
  | i, j :: l => i < j ∧ j ≤ n ∧ j ≤ i + m ∧ Grp m n j l
theorem grp_snoc {m i j k : Nat} {l : List Nat} (h : Grp m i k l) (h1 : i < j) (h2 : j ≤ i + m) : Grp m j k (l ++ [j]) := by
  induction l generalizing k with
  | nil => simp only [Grp] at h; subst h; exact ⟨h1, Nat.le_refl _, h2, rfl⟩
  | cons x l ih => obtain ⟨a, b, c, d⟩ := h; exact ⟨a, by omega, c, ih d⟩
theorem grp_last {m i k : Nat} {l : List Nat} (h : Grp m i k l) : l.getLastD k = i := by
  induction l generalizing k with
  | nil => simp only [Grp] at h; subst h; rfl
  | cons x l ih => obtain ⟨a, b, c, d⟩ := h; rw [List.getLastD_cons]; exact ih d
/-- when it is done -/
def doneAt (q : Qs) : Nat → Int → List Nat → Int
  | _, b, [] => b
  | i, b, j :: l => doneAt q j (scr q i j b) l
theorem doneAt_mono (q : Qs) (i : Nat) {b c : Int} (l : List Nat) (h : b ≤ c) : doneAt q i b l ≤ doneAt q i c l := by
  induction l generalizing i b c with
  | nil => exact h
  | cons j l ih => exact ih j (scr_mono q i j h)
theorem doneAt_append (q : Qs) (i : Nat) (b : Int) (l k : List Nat) : doneAt q i b (l ++ k) = doneAt q (l.getLastD i) (doneAt q i b l) k := by
  induction l generalizing i b with
  | nil => rfl
  | cons j l ih =>
    rw [List.cons_append, doneAt, ih, doneAt]
    rw [List.getLastD_cons]

/-- when the first lines can be done, for each number of them -/
def stepH (q : Qs) (h : List Int) (j : Nat) : Int := (ins q.m j).foldl (fun acc i => min acc (scr q i j (at_ h i))) 4398046511104
def hs (q : Qs) : Nat → List Int
  | 0 => [0]
  | k + 1 => hs q k ++ [stepH q (hs q k) (k + 1)]
theorem hs_len (q : Qs) (k : Nat) : (hs q k).length = k + 1 := by
  induction k with
  | zero => rfl
  | succ k ih => rw [hs, List.length_append, ih]; rfl
def H (q : Qs) (j : Nat) : Int := at_ (hs q j) j
theorem hs_at (q : Qs) {j k : Nat} (h : j ≤ k) : at_ (hs q k) j = H q j := by
  induction h with
  | refl => rfl
  | @step k h0 ih =>
    have h : j ≤ k := h0
    rw [hs]
    unfold at_ at ih ⊢
    rw [List.getD_eq_getElem?_getD, List.getElem?_append_left (by rw [hs_len]; omega), ← List.getD_eq_getElem?_getD]
    exact ih
theorem H_zero (q : Qs) : H q 0 = 0 := rfl
theorem H_succ (q : Qs) (k : Nat) : H q (k + 1) = stepH q (hs q k) (k + 1) := by
  unfold H at_
  rw [hs, List.getD_eq_getElem?_getD, List.getElem?_append_right (by rw [hs_len]; omega), hs_len]
  simp

theorem foldl_min {α : Type} (g : α → Int) (l : List α) (a : Int) : (l.foldl (fun acc i => min acc (g i)) a ≤ a) ∧ (∀ i ∈ l, l.foldl (fun acc i => min acc (g i)) a ≤ g i) ∧
    (l.foldl (fun acc i => min acc (g i)) a = a ∨ ∃ i ∈ l, l.foldl (fun acc i => min acc (g i)) a = g i) := by
  induction l generalizing a with
  | nil => exact ⟨Int.le_refl _, by simp, .inl rfl⟩
  | cons x l ih =>
    obtain ⟨h1, h2, h3⟩ := ih (min a (g x))
    rw [List.foldl_cons]
    refine ⟨by omega, fun i hi => ?_, ?_⟩
    · rcases List.mem_cons.1 hi with rfl | hi
      · omega
      · exact h2 i hi
    · rcases h3 with h3 | ⟨i, hi, h3⟩
      · rw [h3]
        rcases Int.le_total a (g x) with h | h
        · exact .inl (by omega)
        · exact .inr ⟨x, by simp, by omega⟩
      · exact .inr ⟨i, by simp [hi], h3⟩

/-- the bounds of the times -/
theorem ok.H_le {q : Qs} (h : ok q) : ∀ {j : Nat}, j ≤ q.r.length → 0 ≤ H q j ∧ H q j ≤ 1099511627776 + 2147483648 * j ∧ (0 < j → at_ q.r (j - 1) ≤ H q j) ∧
    (0 < j → ∀ i ∈ ins q.m j, H q j ≤ scr q i j (H q i)) ∧ (0 < j → ∃ i ∈ ins q.m j, H q j = scr q i j (H q i)) := by
  intro j
  induction j using Nat.strongRecOn with
  | _ j ih =>
    intro hj
    cases j with
    | zero => exact ⟨by rw [H_zero]; decide, by rw [H_zero]; decide, by omega, by omega, by omega⟩
    | succ k =>
      have hI : ∀ i ∈ ins q.m (k + 1), scr q i (k + 1) (at_ (hs q k) i) = scr q i (k + 1) (H q i) := fun i hi => by
        rw [hs_at]; have := (mem_ins.1 hi).2; omega
      have hB : ∀ i ∈ ins q.m (k + 1), at_ q.r k ≤ scr q i (k + 1) (H q i) ∧ scr q i (k + 1) (H q i) ≤ 1099511627776 + 2147483648 * (k + 1 : Nat) := fun i hi => by
        have hi2 := (mem_ins.1 hi).2
        obtain ⟨h1, h2, _⟩ := ih i hi2 (by omega)
        have a1 := h.r0 k (by omega)
        have a2 := h.sum_mono (i := i) (j := k + 1) (by omega) hj
        have a3 := h.sum_le hj
        have a4 := h.sum_le (i := i) (by omega)
        have a5 := h.sum_diff (i := i) (j := k + 1) (by omega) hj
        have a6 := h.f0
        have a7 := h.f1
        unfold scr
        rw [show k + 1 - 1 = k from rfl]
        split <;> omega
      have hex : k ∈ ins q.m (k + 1) := mem_ins.2 ⟨by have := h.m1; omega, by omega⟩
      obtain ⟨f1, f2, f3⟩ := foldl_min (fun i => scr q i (k + 1) (at_ (hs q k) i)) (ins q.m (k + 1)) 4398046511104
      have e : H q (k + 1) = (ins q.m (k + 1)).foldl (fun acc i => min acc (scr q i (k + 1) (at_ (hs q k) i))) 4398046511104 := H_succ q k
      rw [← e] at f1 f2 f3
      have f2' : ∀ i ∈ ins q.m (k + 1), H q (k + 1) ≤ scr q i (k + 1) (H q i) := fun i hi => by rw [← hI i hi]; exact f2 i hi
      have f3' : ∃ i ∈ ins q.m (k + 1), H q (k + 1) = scr q i (k + 1) (H q i) := by
        rcases f3 with f3 | ⟨i, hi, f3⟩
        · have := f2' k hex
          have := (hB k hex).2
          have := h.n
          omega
        · exact ⟨i, hi, by rw [← hI i hi]; exact f3⟩
      obtain ⟨i, hi, e2⟩ := f3'
      have b1 := hB i hi
      have b2 := h.r0 k (by omega)
      exact ⟨by omega, by omega, fun _ => by rw [show k + 1 - 1 = k from rfl]; omega, fun _ => f2', fun _ => ⟨i, hi, e2⟩⟩

/-- no grouping is done earlier -/
theorem ok.least {q : Qs} (h : ok q) {n : Nat} (hn : n ≤ q.r.length) : ∀ (l : List Nat) {i : Nat} {b : Int}, H q i ≤ b → Grp q.m n i l → H q n ≤ doneAt q i b l
  | [], i, b, hb, hg => by
    simp only [Grp] at hg; subst hg; exact hb
  | j :: l, i, b, hb, hg => by
    obtain ⟨h1, h2, h3, h4⟩ := hg
    refine h.least hn l (i := j) ?_ h4
    have := (h.H_le (j := j) (by omega)).2.2.2.1 (by omega) i (mem_ins.2 ⟨by omega, h1⟩)
    exact Int.le_trans this (scr_mono q i j hb)
/-- and one is done then -/
theorem ok.grp {q : Qs} (h : ok q) : ∀ {j : Nat}, j ≤ q.r.length → ∃ l, Grp q.m j 0 l ∧ doneAt q 0 0 l = H q j := by
  intro j
  induction j using Nat.strongRecOn with
  | _ j ih =>
    intro hj
    cases j with
    | zero => exact ⟨[], rfl, rfl⟩
    | succ k =>
      obtain ⟨i, hi, e⟩ := (h.H_le hj).2.2.2.2 (by omega)
      obtain ⟨i1, i2⟩ := mem_ins.1 hi
      obtain ⟨l, g, e2⟩ := ih i i2 (by omega)
      refine ⟨l ++ [k + 1], grp_snoc g (by omega) (by omega), ?_⟩
      rw [doneAt_append, grp_last g, doneAt, doneAt, e2, e]
end Sc
end Go.Proofs.Ytchjjcmlekknfaa

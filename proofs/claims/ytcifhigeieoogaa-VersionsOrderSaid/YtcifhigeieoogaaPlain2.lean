/- Plain mathematics of layer 16: histories. No program in sight. -/
import Derived.Test.YtcifhigeieoogaaPlain
namespace Go.Proofs.Ytcifhigeieoogaa
set_option linter.unusedVariables false
set_option linter.unusedSimpArgs false
namespace Vn
theorem bst_congr {l : List Am} {key t u kn : Int} {b : Option Am} (h : ∀ x ∈ l, cnt key t kn x = cnt key u kn x) : bst key t kn b l = bst key u kn b l := by
  induction l generalizing b with
  | nil => rfl
  | cons x l ih =>
    show bst key t kn (if cnt key t kn x && better b x then some x else b) l = bst key u kn (if cnt key u kn x && better b x then some x else b) l
    rw [h x (by simp)]
    exact ih (fun y hy => h y (by simp [hy]))
/-- of the register, and known -/
def own (key kn : Int) (x : Am) : Bool := decide (x.key = key) && decide (x.known ≤ kn)
theorem cnt_own (key t kn : Int) (x : Am) : cnt key t kn x = (own key kn x && decide (x.at_ ≤ t)) := rfl
theorem vl_const {l : List Am} {key t u kn : Int} (h : ∀ x ∈ l, own key kn x = true → (x.at_ ≤ t ↔ x.at_ ≤ u)) : vl l key t kn = vl l key u kn := by
  unfold vl best
  rw [bst_congr (u := u)]
  intro x hx
  rw [cnt_own, cnt_own]
  by_cases ho : own key kn x = true
  · rw [ho, Bool.true_and, Bool.true_and]
    exact decide_eq_decide.2 (h x hx ho)
  · simp [ho]
theorem vl_neg {l : List Am} (hl : ∀ x ∈ l, right x = true) (key kn : Int) : vl l key (-1) kn = (0, false) := by
  unfold vl best
  have : bst key (-1) kn none l = none := by
    have : ∀ x ∈ l, cnt key (-1) kn x = false := by
      intro x hx
      have := right_at (hl x hx)
      rw [cnt_own]
      simp; omega
    revert this
    clear hl
    induction l with
    | nil => intro _; rfl
    | cons x l ih =>
      intro h
      show bst key (-1) kn (if cnt key (-1) kn x && better none x then some x else none) l = none
      rw [h x (by simp), Bool.false_and, if_neg (by decide)]
      exact ih (fun y hy => h y (by simp [hy]))
  rw [this]; rfl
/-- the steps up to a time -/
structure HistTo (l : List Am) (key kn t : Int) (s : List St) : Prop where
  inc : s.Pairwise (fun x y => x.at_ < y.at_)
  mem : ∀ x, x ∈ s ↔ 0 ≤ x.at_ ∧ x.at_ ≤ t ∧ (x.value, x.ok) = vl l key x.at_ kn ∧ vl l key x.at_ kn ≠ vl l key (x.at_ - 1) kn
structure Hist (l : List Am) (key kn : Int) (s : List St) : Prop where
  inc : s.Pairwise (fun x y => x.at_ < y.at_)
  mem : ∀ x, x ∈ s ↔ 0 ≤ x.at_ ∧ (x.value, x.ok) = vl l key x.at_ kn ∧ vl l key x.at_ kn ≠ vl l key (x.at_ - 1) kn
theorem inc_uniq {s t : List St} (hs : s.Pairwise (fun x y => x.at_ < y.at_)) (ht : t.Pairwise (fun x y => x.at_ < y.at_)) (h : ∀ x, x ∈ s ↔ x ∈ t) : s = t := by
  induction s generalizing t with
  | nil =>
    cases t with
    | nil => rfl
    | cons y t => have := (h y).2 (by simp); simp at this
  | cons x s ih =>
    cases t with
    | nil => have := (h x).1 (by simp); simp at this
    | cons y t =>
      rw [List.pairwise_cons] at hs ht
      have e : x = y := by
        have h1 := (h x).1 (by simp)
        have h2 := (h y).2 (by simp)
        rw [List.mem_cons] at h1 h2
        rcases h1 with h1 | h1
        · exact h1
        · rcases h2 with h2 | h2
          · exact h2.symm
          · have := hs.1 y h2; have := ht.1 x h1; omega
      subst e
      congr 1
      refine ih hs.2 ht.2 fun z => ?_
      constructor
      · intro hz
        have h1 := (h z).1 (by simp [hz])
        rw [List.mem_cons] at h1
        rcases h1 with rfl | h1
        · have := hs.1 z hz; omega
        · exact h1
      · intro hz
        have h1 := (h z).2 (by simp [hz])
        rw [List.mem_cons] at h1
        rcases h1 with rfl | h1
        · have := ht.1 z hz; omega
        · exact h1
theorem Hist.uniq {l m : List Am} {key kn : Int} {s t : List St} (hs : Hist l key kn s) (ht : Hist m key kn t) (h : ∀ u : Int, vl l key u kn = vl m key u kn) : s = t :=
  inc_uniq hs.inc ht.inc fun x => by rw [hs.mem, ht.mem, h, h]
theorem HistTo.zero {l : List Am} (key kn : Int) : HistTo l key kn (-1) [] where
  inc := List.Pairwise.nil
  mem := fun x => by
    constructor
    · intro h; simp at h
    · intro h; omega
/-- the next time at which something may change -/
theorem HistTo.next {l : List Am} {key kn t u : Int} {s : List St} (h : HistTo l key kn t s) (ht : -1 ≤ t) (htu : t < u) (hg : ∀ x ∈ l, own key kn x = true → (x.at_ ≤ t ∨ u ≤ x.at_)) {v : Int} {ok : Bool} (hv : (v, ok) = vl l key u kn) :
    (vl l key u kn = vl l key t kn → HistTo l key kn u s) ∧ (vl l key u kn ≠ vl l key t kn → HistTo l key kn u (s ++ [⟨u, v, ok⟩])) := by
  have hc : ∀ a : Int, t ≤ a → a < u → vl l key a kn = vl l key t kn := fun a h1 h2 =>
    vl_const fun x hx ho => by rcases hg x hx ho with h | h <;> omega
  constructor
  · intro he
    refine ⟨h.inc, fun x => ?_⟩
    rw [h.mem]
    constructor
    · rintro ⟨h1, h2, h3⟩; exact ⟨h1, by omega, h3⟩
    · rintro ⟨h1, h2, h3, h4⟩
      refine ⟨h1, ?_, h3, h4⟩
      apply Classical.byContradiction
      intro h5
      apply h4
      rw [hc (x.at_ - 1) (by omega) (by omega)]
      by_cases e : x.at_ = u
      · rw [e, he]
      · exact hc _ (by omega) (by omega)
  · intro he
    refine ⟨?_, fun x => ?_⟩
    · rw [List.pairwise_append]
      refine ⟨h.inc, by simp, fun a ha b hb => ?_⟩
      rw [List.mem_singleton] at hb
      subst hb
      have := ((h.mem a).1 ha).2.1
      show a.at_ < u
      omega
    · rw [List.mem_append, List.mem_singleton, h.mem]
      constructor
      · rintro (⟨h1, h2, h3⟩ | rfl)
        · exact ⟨h1, by omega, h3⟩
        · refine ⟨by show 0 ≤ u; omega, by show u ≤ u; omega, hv, ?_⟩
          show vl l key u kn ≠ vl l key (u - 1) kn
          rw [hc (u - 1) (by omega) (by omega)]
          exact he
      · rintro ⟨h1, h2, h3, h4⟩
        by_cases e : x.at_ = u
        · right
          rw [e, ← hv] at h3
          obtain ⟨a, b, c⟩ := x
          simp only at e h3
          injection h3 with e1 e2
          subst e e1 e2; rfl
        · left
          refine ⟨h1, ?_, h3, h4⟩
          apply Classical.byContradiction
          intro h5
          apply h4
          rw [hc (x.at_ - 1) (by omega) (by omega), hc x.at_ (by omega) (by omega)]
theorem HistTo.whole {l : List Am} {key kn t : Int} {s : List St} (h : HistTo l key kn t s) (hg : ∀ x ∈ l, own key kn x = true → x.at_ ≤ t) : Hist l key kn s where
  inc := h.inc
  mem := fun x => by
    rw [h.mem]
    constructor
    · rintro ⟨h1, h2, h3⟩; exact ⟨h1, h3⟩
    · rintro ⟨h1, h3, h4⟩
      refine ⟨h1, ?_, h3, h4⟩
      apply Classical.byContradiction
      intro h5
      apply h4
      exact vl_const fun y hy ho => by have := hg y hy ho; omega

/- the reference's way -/
def nx1 (t u : Int) (x : Am) : Int := if decide (t < x.at_) && (decide (u < 0) || decide (x.at_ < u)) then x.at_ else u
def nxF (t u : Int) (l : List Am) : Int := l.foldl (nx1 t) u
def nx (l : List Am) (t : Int) : Int := nxF t (-1) l
theorem nx_take_succ {l : List Am} {k : Nat} (hk : k < l.length) (t : Int) : nx (l.take (k + 1)) t = nx1 t (nx (l.take k) t) l[k] := by
  rw [List.take_succ_eq_append_getElem hk]; unfold nx nxF; rw [List.foldl_append]; rfl
theorem nxF_is {l : List Am} {t u : Int} (ht : -1 ≤ t) (hu : u = -1 ∨ t < u) :
    (nxF t u l = -1 ∧ u = -1 ∧ ∀ x ∈ l, x.at_ ≤ t) ∨ (t < nxF t u l ∧ ((∃ x ∈ l, x.at_ = nxF t u l) ∨ u = nxF t u l) ∧ (∀ x ∈ l, t < x.at_ → nxF t u l ≤ x.at_) ∧ (u ≠ -1 → nxF t u l ≤ u)) := by
  induction l generalizing u with
  | nil =>
    rcases hu with rfl | hu
    · left; exact ⟨rfl, rfl, by simp⟩
    · right; exact ⟨hu, .inr rfl, by simp, fun _ => Int.le_refl _⟩
  | cons x l ih =>
    show (nxF t (nx1 t u x) l = -1 ∧ _) ∨ (t < nxF t (nx1 t u x) l ∧ _ ∧ (∀ y ∈ x :: l, _ → nxF t (nx1 t u x) l ≤ _) ∧ (_ → nxF t (nx1 t u x) l ≤ u))
    have hn : nx1 t u x = -1 ∨ t < nx1 t u x := by
      unfold nx1
      split
      · rename_i h; simp at h; right; omega
      · exact hu
    have hd : nx1 t u x = x.at_ ∧ t < x.at_ ∧ (u = -1 ∨ x.at_ < u) ∨ nx1 t u x = u ∧ (x.at_ ≤ t ∨ (t < u ∧ u ≤ x.at_)) := by
      unfold nx1
      split
      · rename_i h; simp at h; left; refine ⟨rfl, by omega, by omega⟩
      · rename_i h; simp at h; right; refine ⟨rfl, by omega⟩
    have hN : nxF t u (x :: l) = nxF t (nx1 t u x) l := rfl
    rw [hN]
    rcases ih hn with ⟨h1, h2, h3⟩ | ⟨h1, h2, h3, h4⟩
    · left
      refine ⟨h1, by omega, ?_⟩
      intro y hy
      rw [List.mem_cons] at hy
      rcases hy with rfl | hy
      · omega
      · exact h3 y hy
    · right
      refine ⟨h1, ?_, ?_, ?_⟩
      · rcases h2 with ⟨y, hy, e⟩ | e
        · exact .inl ⟨y, by simp [hy], e⟩
        · rcases hd with ⟨d1, _⟩ | ⟨d1, _⟩
          · exact .inl ⟨x, by simp, by rw [← e, d1]⟩
          · exact .inr (by rw [← e, d1])
      · intro y hy hyt
        rw [List.mem_cons] at hy
        rcases hy with rfl | hy
        · rcases hd with ⟨d1, d2, _⟩ | ⟨d1, d2⟩
          · have := h4 (by omega); omega
          · have := h4 (by omega); omega
        · exact h3 y hy hyt
      · intro hu'
        rcases hd with ⟨d1, d2, d3⟩ | ⟨d1, d2⟩
        · have := h4 (by omega); omega
        · have := h4 (by omega); omega
theorem nx_is (l : List Am) {t : Int} (ht : -1 ≤ t) : (nx l t = -1 ∧ ∀ x ∈ l, x.at_ ≤ t) ∨ (t < nx l t ∧ 0 ≤ nx l t ∧ (∃ x ∈ l, x.at_ = nx l t) ∧ ∀ x ∈ l, x.at_ ≤ t ∨ nx l t ≤ x.at_) := by
  rcases nxF_is (l := l) (u := -1) ht (.inl rfl) with ⟨h1, _, h2⟩ | ⟨h1, h2, h3, _⟩
  · exact .inl ⟨h1, h2⟩
  · right
    change t < nx l t at h1
    refine ⟨h1, by omega, ?_, fun x hx => ?_⟩
    · rcases h2 with h2 | h2
      · exact h2
      · change -1 = nx l t at h2; omega
    · by_cases h : x.at_ ≤ t
      · exact .inl h
      · exact .inr (h3 x hx (by omega))
/-- how many times are left -/
def leftT (l : List Am) (t : Int) : Nat := (l.filter fun x => decide (t < x.at_)).length
theorem leftT_lt {l : List Am} {t u : Int} (htu : t < u) {x : Am} (hx : x ∈ l) (he : x.at_ = u) : leftT l u < leftT l t := by
  unfold leftT
  induction l with
  | nil => simp at hx
  | cons y l ih =>
    have hle : ∀ m : List Am, (m.filter fun x => decide (u < x.at_)).length ≤ (m.filter fun x => decide (t < x.at_)).length := by
      intro m
      induction m with
      | nil => simp
      | cons z m ih =>
        simp only [List.filter_cons]
        by_cases h1 : u < z.at_
        · rw [if_pos (decide_eq_true h1), if_pos (decide_eq_true (by omega))]; simp; exact ih
        · rw [if_neg (by simpa using h1)]
          split
          · simp; omega
          · exact ih
    rw [List.mem_cons] at hx
    simp only [List.filter_cons]
    rcases hx with rfl | hx
    · rw [if_neg (by simp; omega), if_pos (decide_eq_true (by omega))]
      have := hle l
      simp; omega
    · have := ih hx
      by_cases h1 : u < y.at_
      · rw [if_pos (decide_eq_true h1), if_pos (decide_eq_true (by omega))]; simp; exact this
      · rw [if_neg (by simpa using h1)]
        split
        · simp; omega
        · exact this

/- the program's way: sorted by time and number -/
def lexLt (x y : Am) : Prop := x.at_ < y.at_ ∨ (x.at_ = y.at_ ∧ x.no < y.no)
/-- the amendments of a register that are known, sorted -/
structure Sorted (l : List Am) (key kn : Int) (a : List Am) : Prop where
  mem : ∀ x, x ∈ a ↔ x ∈ l ∧ own key kn x = true
  srt : a.Pairwise lexLt
/-- the steps behind some of the sorted -/
structure Upto (l : List Am) (key kn : Int) (a : List Am) (i : Nat) (t : Int) (s : List St) (v : Int) (ok : Bool) : Prop where
  h : HistTo l key kn t s
  lo : -1 ≤ t
  last : (v, ok) = vl l key t kn
  below : ∀ j (hj : j < a.length), j < i → a[j].at_ ≤ t ∨ ∃ h : i < a.length, a[j].at_ = a[i].at_
  above : ∀ j (hj : j < a.length), i ≤ j → t < a[j].at_
theorem Upto.zero {l : List Am} (hl : ∀ x ∈ l, right x = true) {key kn : Int} {a : List Am} (ha : Sorted l key kn a) : Upto l key kn a 0 (-1) [] 0 false where
  h := HistTo.zero key kn
  lo := by omega
  last := (vl_neg hl key kn).symm
  below := fun j hj h => by omega
  above := fun j hj _ => by have := right_at (hl _ ((ha.mem _).1 (List.getElem_mem hj)).1); omega
theorem Upto.skip {l : List Am} {key kn : Int} {a : List Am} {i : Nat} {t : Int} {s : List St} {v : Int} {ok : Bool} (h : Upto l key kn a i t s v ok) (hi : i + 1 < a.length) (he : a[i + 1].at_ = a[i].at_) : Upto l key kn a (i + 1) t s v ok where
  h := h.h
  lo := h.lo
  last := h.last
  below := fun j hj hj2 => by
    by_cases e : j = i
    · subst e; exact .inr ⟨hi, he.symm⟩
    · rcases h.below j hj (by omega) with h1 | ⟨h1, h2⟩
      · exact .inl h1
      · exact .inr ⟨hi, by rw [he]; exact h2⟩
  above := fun j hj hj2 => h.above j hj (by omega)
theorem Upto.step {l : List Am} (hl : Ok l) {key kn : Int} {a : List Am} (ha : Sorted l key kn a) {i : Nat} {t : Int} {s : List St} {v : Int} {ok : Bool} (h : Upto l key kn a i t s v ok) (hi : i < a.length) (he : ∀ h : i + 1 < a.length, a[i + 1].at_ ≠ a[i].at_) :
    ((a[i].value = v ∧ (!a[i].gone) = ok) → Upto l key kn a (i + 1) a[i].at_ s v ok) ∧ (¬ (a[i].value = v ∧ (!a[i].gone) = ok) → Upto l key kn a (i + 1) a[i].at_ (s ++ [⟨a[i].at_, a[i].value, !a[i].gone⟩]) a[i].value (!a[i].gone)) := by
  have hsrt := List.pairwise_iff_getElem.1 ha.srt
  have habove : ∀ j (hj : j < a.length), i + 1 ≤ j → a[i].at_ < a[j].at_ := by
    intro j hj hij
    have h1 : a[i].at_ < a[i + 1].at_ := by
      have := hsrt i (i + 1) hi (by omega) (by omega)
      have := he (by omega)
      unfold lexLt at *; omega
    by_cases e : j = i + 1
    · subst e; exact h1
    · have := hsrt (i + 1) j (by omega) hj (by omega)
      unfold lexLt at this; omega
  have hbelow : ∀ j (hj : j < a.length), j < i + 1 → a[j].at_ ≤ a[i].at_ := by
    intro j hj hj2
    by_cases e : j = i
    · subst e; exact Int.le_refl _
    · have := hsrt j i hj hi (by omega)
      unfold lexLt at this; omega
  have hgap : ∀ x ∈ l, own key kn x = true → (x.at_ ≤ t ∨ a[i].at_ ≤ x.at_) := by
    intro x hx ho
    obtain ⟨j, hj, rfl⟩ := List.getElem_of_mem ((ha.mem x).2 ⟨hx, ho⟩)
    by_cases e : j < i
    · rcases h.below j hj e with h1 | ⟨_, h1⟩
      · exact .inl h1
      · exact .inr (by omega)
    · right
      by_cases e2 : j = i
      · subst e2; exact Int.le_refl _
      · have := habove j hj (by omega); omega
  have hx := (ha.mem _).1 (List.getElem_mem hi)
  have hvl : (a[i].value, !a[i].gone) = vl l key a[i].at_ kn := by
    have h1 := best_is hl.inc key a[i].at_ kn
    have h2 : Best l key a[i].at_ kn (some a[i]) := by
      refine ⟨hx.1, by rw [cnt_own, hx.2]; simp, fun y hy hyc => ?_⟩
      rw [cnt_own, Bool.and_eq_true, decide_eq_true_eq] at hyc
      obtain ⟨j, hj, rfl⟩ := List.getElem_of_mem ((ha.mem y).2 ⟨hy, hyc.1⟩)
      by_cases e : j = i
      · subst e; exact .inr ⟨rfl, Int.le_refl _⟩
      · by_cases e2 : j < i
        · have := hsrt j i hj hi e2
          unfold lexLt at this; omega
        · have := habove j hj (by omega); omega
    rw [vl, Best_uniq hl.inc h1 h2 (fun _ _ => Iff.rfl)]
    rfl
  have ht : t < a[i].at_ := h.above i hi (Nat.le_refl _)
  obtain ⟨n1, n2⟩ := h.h.next h.lo ht hgap hvl
  have hb : ∀ j (hj : j < a.length), j < i + 1 → a[j].at_ ≤ a[i].at_ ∨ ∃ h : i + 1 < a.length, a[j].at_ = a[i + 1].at_ := fun j hj hj2 => .inl (hbelow j hj hj2)
  have ho := right_at (hl.rt _ hx.1)
  constructor
  · rintro ⟨e1, e2⟩
    rw [e1, e2] at hvl
    exact ⟨n1 (by rw [← hvl, h.last]), by omega, hvl, hb, fun j hj hj2 => habove j hj hj2⟩
  · intro e
    refine ⟨n2 ?_, by omega, hvl, hb, fun j hj hj2 => habove j hj hj2⟩
    rw [← hvl, ← h.last]
    intro e2
    injection e2 with e3 e4
    exact e ⟨e3, e4⟩
theorem Upto.whole {l : List Am} {key kn : Int} {a : List Am} (ha : Sorted l key kn a) {t : Int} {s : List St} {v : Int} {ok : Bool} (h : Upto l key kn a a.length t s v ok) : Hist l key kn s :=
  h.h.whole fun x hx ho => by
    obtain ⟨j, hj, rfl⟩ := List.getElem_of_mem ((ha.mem x).2 ⟨hx, ho⟩)
    rcases h.below j hj hj with h1 | ⟨h1, _⟩
    · exact h1
    · omega
end Vn
end Go.Proofs.Ytcifhigeieoogaa

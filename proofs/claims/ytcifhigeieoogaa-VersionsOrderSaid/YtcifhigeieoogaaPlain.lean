/- Plain mathematics of layer 16: amendments and what counts. No program in sight. -/
import Derived.Test.YtcifhigeieoogaaBase
namespace Go.Proofs.Ytcifhigeieoogaa
set_option linter.unusedVariables false
set_option linter.unusedSimpArgs false
structure Am where
  no : Int
  at_ : Int
  known : Int
  key : Int
  value : Int
  gone : Bool
deriving DecidableEq
instance : Inhabited Am := ⟨⟨0, 0, 0, 0, 0, false⟩⟩
structure St where
  at_ : Int
  value : Int
  ok : Bool
deriving DecidableEq
instance : Inhabited St := ⟨⟨0, 0, false⟩⟩
namespace Vn
def inn (a hi : Int) : Bool := decide (0 ≤ a) && decide (a ≤ hi)
def right (x : Am) : Bool := inn x.no 1048576 && (inn x.key 1048576 && (inn x.at_ 1099511627775 && (inn x.known 1099511627775 && (inn x.value 1099511627776 && (!x.gone || x.value == 0)))))
/-- right and increasing from a number on -/
def okF (last : Int) : List Am → Bool
  | [] => true
  | x :: l => right x && decide (last < x.no) && okF x.no l
def err (l : List Am) : Int := if 4096 < l.length then 2 else if okF (-1) l = true then 0 else 160
theorem err_cases (l : List Am) : err l = 0 ∨ err l = 2 ∨ err l = 160 := by
  unfold err
  split
  · simp
  · split <;> simp
theorem right_no {x : Am} (h : right x = true) : 0 ≤ x.no ∧ x.no ≤ 1048576 := by
  unfold right inn at h; simp at h; omega
theorem right_at {x : Am} (h : right x = true) : 0 ≤ x.at_ ∧ x.at_ ≤ 1099511627775 := by
  unfold right inn at h; simp at h; omega
theorem right_all {x : Am} (h : right x = true) : (0 ≤ x.no ∧ x.no ≤ 1048576) ∧ (0 ≤ x.key ∧ x.key ≤ 1048576) ∧ (0 ≤ x.at_ ∧ x.at_ ≤ 1099511627775) ∧ (0 ≤ x.known ∧ x.known ≤ 1099511627775) ∧ (0 ≤ x.value ∧ x.value ≤ 1099511627776) ∧ (x.gone = true → x.value = 0) := by
  unfold right inn at h
  simp only [Bool.and_eq_true, decide_eq_true_eq, Bool.or_eq_true, Bool.not_eq_true', beq_iff_eq] at h
  obtain ⟨h1, h2, h3, h4, h5, h6⟩ := h
  refine ⟨h1, h2, h3, h4, h5, fun h => ?_⟩
  rcases h6 with h6 | h6
  · rw [h] at h6; cases h6
  · exact h6
theorem okF_iff {l : List Am} {a : Int} : okF a l = true ↔ (∀ x ∈ l, right x = true ∧ a < x.no) ∧ l.Pairwise (fun x y => x.no < y.no) := by
  induction l generalizing a with
  | nil => simp [okF]
  | cons x l ih =>
    simp only [okF, Bool.and_eq_true, decide_eq_true_eq, ih, List.mem_cons, List.pairwise_cons]
    constructor
    · rintro ⟨⟨h1, h2⟩, h3, h4⟩
      refine ⟨?_, ?_, h4⟩
      · rintro y (rfl | hy)
        · exact ⟨h1, h2⟩
        · exact ⟨(h3 y hy).1, by have := (h3 y hy).2; omega⟩
      · exact fun y hy => (h3 y hy).2
    · rintro ⟨h1, h2, h3⟩
      exact ⟨h1 x (.inl rfl), fun y hy => ⟨(h1 y (.inr hy)).1, h2 y hy⟩, h3⟩
/-- a list of amendments that Check accepts -/
structure Ok (l : List Am) : Prop where
  len : l.length ≤ 4096
  rt : ∀ x ∈ l, right x = true
  inc : l.Pairwise (fun x y => x.no < y.no)
theorem err_iff (l : List Am) : err l = 0 ↔ Ok l := by
  unfold err
  constructor
  · intro h
    split at h
    · cases h
    · split at h
      · rename_i h1 h2
        rw [okF_iff] at h2
        exact ⟨by omega, fun x hx => (h2.1 x hx).1, h2.2⟩
      · cases h
  · intro h
    rw [if_neg (by have := h.len; omega), if_pos]
    rw [okF_iff]
    exact ⟨fun x hx => ⟨h.rt x hx, by have := right_no (h.rt x hx); omega⟩, h.inc⟩

/- adding -/
def pos (l : List Am) (n : Int) : Nat := (l.filter (fun h => decide (h.no < n))).length
def has (l : List Am) (n : Int) : Bool := l.any (fun h => decide (h.no = n))
def ins (l : List Am) (x : Am) : List Am := l.take (pos l x.no) ++ x :: l.drop (pos l x.no)
def addE (l : List Am) (x : Am) : Int := if err l = 0 then (if right x = true then (if has l x.no = true then 181 else if l.length = 4096 then 2 else 0) else 160) else err l
def addL (l : List Am) (x : Am) : List Am := if addE l x = 0 then ins l x else []

/- what counts -/
def cnt (key t kn : Int) (x : Am) : Bool := decide (x.key = key) && decide (x.known ≤ kn) && decide (x.at_ ≤ t)
def better (b : Option Am) (x : Am) : Bool := match b with
  | none => true
  | some y => decide (y.at_ ≤ x.at_)
def bst (key t kn : Int) (b : Option Am) (l : List Am) : Option Am := l.foldl (fun b x => if cnt key t kn x && better b x then some x else b) b
def best (l : List Am) (key t kn : Int) : Option Am := bst key t kn none l
def ofB (b : Option Am) : Int × Bool := match b with
  | none => (0, false)
  | some x => (x.value, !x.gone)
def vl (l : List Am) (key t kn : Int) : Int × Bool := ofB (best l key t kn)
def argV (key t kn : Int) : Bool := inn key 1048576 && inn t 1099511627775 && inn kn 1099511627775
def valE (l : List Am) (key t kn : Int) : Int := if err l = 0 then (if argV key t kn = true then 0 else 1) else err l
def val (l : List Am) (key t kn : Int) : Int × Bool := if valE l key t kn = 0 then vl l key t kn else (0, false)

theorem bst_app (key t kn : Int) (b : Option Am) (l m : List Am) : bst key t kn b (l ++ m) = bst key t kn (bst key t kn b l) m := by unfold bst; rw [List.foldl_append]
/-- what counts, told by members -/
def Best (l : List Am) (key t kn : Int) (b : Option Am) : Prop := match b with
  | none => ∀ y ∈ l, cnt key t kn y = false
  | some m => m ∈ l ∧ cnt key t kn m = true ∧ ∀ y ∈ l, cnt key t kn y = true → y.at_ < m.at_ ∨ (y.at_ = m.at_ ∧ y.no ≤ m.no)
theorem Best_step {l : List Am} {key t kn : Int} {b : Option Am} (h : Best l key t kn b) (x : Am) (hx : ∀ y ∈ l, y.no < x.no) :
    Best (l ++ [x]) key t kn (if cnt key t kn x && better b x then some x else b) := by
  by_cases hc : cnt key t kn x = true
  · rw [hc, Bool.true_and]
    by_cases hb : better b x = true
    · rw [if_pos hb]
      refine ⟨by simp, hc, fun y hy hyc => ?_⟩
      rw [List.mem_append, List.mem_singleton] at hy
      rcases hy with hy | rfl
      · have h1 := hx y hy
        cases b with
        | none => rw [show cnt key t kn y = false from h y hy] at hyc; cases hyc
        | some m =>
          obtain ⟨_, _, h4⟩ := h
          have h5 : m.at_ ≤ x.at_ := by simpa [better] using hb
          rcases h4 y hy hyc with h6 | ⟨h6, _⟩ <;> omega
      · exact .inr ⟨rfl, Int.le_refl _⟩
    · rw [if_neg hb]
      cases b with
      | none => exact absurd rfl hb
      | some m =>
        obtain ⟨h2, h3, h4⟩ := h
        have h5 : x.at_ < m.at_ := by simpa [better] using hb
        refine ⟨by simp [h2], h3, fun y hy hyc => ?_⟩
        rw [List.mem_append, List.mem_singleton] at hy
        rcases hy with hy | rfl
        · exact h4 y hy hyc
        · exact .inl h5
  · have hc' : cnt key t kn x = false := by simpa using hc
    rw [hc', Bool.false_and, if_neg (by decide)]
    cases b with
    | none =>
      intro y hy
      rw [List.mem_append, List.mem_singleton] at hy
      rcases hy with hy | rfl
      · exact h y hy
      · exact hc'
    | some m =>
      obtain ⟨h2, h3, h4⟩ := h
      refine ⟨by simp [h2], h3, fun y hy hyc => ?_⟩
      rw [List.mem_append, List.mem_singleton] at hy
      rcases hy with hy | rfl
      · exact h4 y hy hyc
      · exact absurd hyc hc
theorem best_take_succ {l : List Am} {k : Nat} (hk : k < l.length) (key t kn : Int) : best (l.take (k + 1)) key t kn = if cnt key t kn l[k] && better (best (l.take k) key t kn) l[k] then some l[k] else best (l.take k) key t kn := by
  rw [List.take_succ_eq_append_getElem hk]; unfold best; rw [bst_app]; rfl
theorem inc_take {l : List Am} (h : l.Pairwise (fun x y => x.no < y.no)) {k : Nat} (hk : k < l.length) : ∀ y ∈ l.take k, y.no < l[k].no := by
  intro y hy
  obtain ⟨j, hj, rfl⟩ := List.getElem_of_mem hy
  rw [List.length_take] at hj
  rw [List.getElem_take]
  exact List.pairwise_iff_getElem.1 h j k (by omega) hk (by omega)
theorem best_take {l : List Am} (h : l.Pairwise (fun x y => x.no < y.no)) (key t kn : Int) {k : Nat} (hk : k ≤ l.length) : Best (l.take k) key t kn (best (l.take k) key t kn) := by
  induction k with
  | zero => intro y hy; simp at hy
  | succ k ih =>
    rw [best_take_succ (by omega), List.take_succ_eq_append_getElem (by omega)]
    exact Best_step (ih (by omega)) _ (inc_take h (by omega))
theorem best_is {l : List Am} (h : l.Pairwise (fun x y => x.no < y.no)) (key t kn : Int) : Best l key t kn (best l key t kn) := by
  have := best_take h key t kn (Nat.le_refl _)
  rwa [List.take_length] at this
theorem no_inj {l : List Am} (h : l.Pairwise (fun x y => x.no < y.no)) {x y : Am} (hx : x ∈ l) (hy : y ∈ l) (e : x.no = y.no) : x = y := by
  obtain ⟨i, hi, rfl⟩ := List.getElem_of_mem hx
  obtain ⟨j, hj, rfl⟩ := List.getElem_of_mem hy
  rcases Nat.lt_trichotomy i j with h1 | h1 | h1
  · have := List.pairwise_iff_getElem.1 h i j hi hj h1; omega
  · subst h1; rfl
  · have := List.pairwise_iff_getElem.1 h j i hj hi h1; omega
/-- only one can count -/
theorem Best_uniq {l m : List Am} {key t kn : Int} {b c : Option Am} (hm : m.Pairwise (fun x y => x.no < y.no)) (h1 : Best l key t kn b) (h2 : Best m key t kn c) (hlm : ∀ y, cnt key t kn y = true → (y ∈ l ↔ y ∈ m)) : b = c := by
  cases b with
  | none =>
    cases c with
    | none => rfl
    | some y =>
      obtain ⟨k1, k2, _⟩ := h2
      have := h1 y ((hlm y k2).2 k1)
      rw [k2] at this; cases this
  | some x =>
    obtain ⟨j1, j2, j3⟩ := h1
    cases c with
    | none => have := h2 x ((hlm x j2).1 j1); rw [j2] at this; cases this
    | some y =>
      obtain ⟨k1, k2, k3⟩ := h2
      have a1 := j3 y ((hlm y k2).2 k1) k2
      have a2 := k3 x ((hlm x j2).1 j1) j2
      have : x.no = y.no := by omega
      rw [no_inj hm ((hlm x j2).1 j1) k1 this]
theorem ofB_ok {l : List Am} (hl : ∀ x ∈ l, right x = true) {key t kn : Int} {b : Option Am} (h : Best l key t kn b) : (ofB b).2 = false → (ofB b).1 = 0 := by
  cases b with
  | none => intro _; rfl
  | some m =>
    intro h2
    have := (right_all (hl m h.1)).2.2.2.2.2
    exact this (by simpa [ofB] using h2)
end Vn
end Go.Proofs.Ytcifhigeieoogaa

/- Plain mathematics of layer 47: what is right; a line by sums. -/
import Derived.Test.YtdcndhfjfllehaaPlain2
namespace Go.Proofs.Ytdcndhfjfllehaa
set_option linter.unusedVariables false
set_option linter.unusedSimpArgs false
namespace Bk
def badW (x : Int) : Bool := decide (x < 1) || decide (1099511627776 < x)
def argOk (sp rm : Int) : Bool := decide (0 ≤ sp) && decide (sp ≤ 1048576) && decide (1 ≤ rm) && decide (rm ≤ 1048576)
def err (ws : List Int) (sp rm : Int) : Int := if 64 < ws.length then 2 else if ws.any badW = true then 470 else if argOk sp rm = true then 0 else 1
/-- right arguments -/
structure Rt (ws : List Int) (sp rm : Int) : Prop where
  len : ws.length ≤ 64
  w : ∀ x ∈ ws, 1 ≤ x ∧ x ≤ 1099511627776
  s : 0 ≤ sp ∧ sp ≤ 1048576
  r : 1 ≤ rm ∧ rm ≤ 1048576
theorem err_rt {ws : List Int} {sp rm : Int} (h : err ws sp rm = 0) : Rt ws sp rm := by
  unfold err at h
  split at h
  · cases h
  · split at h
    · cases h
    · split at h
      · rename_i h1 h2 h3
        simp only [argOk, Bool.and_eq_true, decide_eq_true_eq] at h3
        refine ⟨by omega, fun x hx => ?_, ⟨h3.1.1.1, h3.1.1.2⟩, ⟨h3.1.2, h3.2⟩⟩
        have h4 : ws.any badW = false := by simpa using h2
        have := List.any_eq_false.1 h4 x hx
        simp [badW] at this
        exact this
      · cases h
def wide (ws : List Int) (rm : Int) : Bool := ws.any fun x => decide (rm < x)
theorem Rt.ok {ws : List Int} {sp rm : Int} (h : Rt ws sp rm) (hw : wide ws rm = false) : ok sp rm ws := ⟨h.s.1, fun x hx => by
  have := List.any_eq_false.1 hw x hx
  simp at this
  exact ⟨(h.w x hx).1, this⟩⟩
def pos (sp : Int) (ws : List Int) : Prop := 0 ≤ sp ∧ ∀ x ∈ ws, 1 ≤ x
theorem Rt.pos {ws : List Int} {sp rm : Int} (h : Rt ws sp rm) : pos sp ws := ⟨h.s.1, fun x hx => (h.w x hx).1⟩
theorem pos.tail {sp x : Int} {r : List Int} (h : pos sp (x :: r)) : pos sp r := ⟨h.1, fun y hy => h.2 y (by simp [hy])⟩
theorem pos.drop {sp : Int} {ws : List Int} (h : pos sp ws) (k : Nat) : pos sp (ws.drop k) := ⟨h.1, fun y hy => h.2 y (List.mem_of_mem_drop hy)⟩
/-- the room that k words take, with a space behind each -/
def sm (sp : Int) : List Int → Int
  | [] => 0
  | x :: r => (sp + x) + sm sp r
theorem sm_append (sp : Int) (a b : List Int) : sm sp (a ++ b) = sm sp a + sm sp b := by
  induction a with
  | nil => simp [sm]
  | cons x a ih => simp only [List.cons_append, sm, ih]; omega
theorem sm_take (sp : Int) (l : List Int) (k : Nat) (h : k < l.length) : sm sp (l.take (k + 1)) = sm sp (l.take k) + (sp + l[k]) := by
  rw [List.take_succ_eq_append_getElem h, sm_append]; simp [sm]
theorem sm_nonneg {sp : Int} {l : List Int} (h : pos sp l) : 0 ≤ sm sp l := by
  induction l with
  | nil => simp [sm]
  | cons x r ih => have := ih h.tail; have := h.2 x (by simp); have := h.1; simp only [sm]; omega
theorem sm_mono {sp : Int} {l : List Int} (h : pos sp l) (k : Nat) : sm sp (l.take k) ≤ sm sp l := by
  have e : sm sp l = sm sp (l.take k) + sm sp (l.drop k) := by rw [← sm_append, List.take_append_drop]
  have := sm_nonneg (h.drop k)
  omega
theorem sm_lt {sp : Int} {l : List Int} (h : pos sp l) {k j : Nat} (hk : k < j) (hj : j ≤ l.length) : sm sp (l.take k) < sm sp (l.take j) := by
  have h1 := sm_take sp l k (by omega)
  have h2 : sm sp (l.take (k + 1)) ≤ sm sp (l.take j) := by
    have := sm_mono (l := l.take j) (sp := sp) ⟨h.1, fun x hx => h.2 x (List.mem_of_mem_take hx)⟩ (k + 1)
    rwa [List.take_take, Nat.min_eq_left (by omega)] at this
  have := h.2 l[k] (List.getElem_mem (by omega))
  have := h.1
  omega
theorem sm_bd {sp : Int} {l : List Int} (hs : 0 ≤ sp ∧ sp ≤ 1048576) (h : ∀ x ∈ l, 1 ≤ x ∧ x ≤ 1099511627776) : sm sp l ≤ 1099512676352 * l.length := by
  induction l with
  | nil => simp [sm]
  | cons x r ih => have := ih (fun y hy => h y (by simp [hy])); have := h x (by simp); simp only [sm, List.length_cons]; omega
/-- a line of t words, by the sum -/
def lcS (sp rm : Int) (ws : List Int) (t : Nat) : Option Int := if 1 ≤ t ∧ t ≤ ws.length ∧ sm sp (ws.take t) ≤ rm + sp then some (if t = ws.length then 0 else (rm + sp - sm sp (ws.take t)) * (rm + sp - sm sp (ws.take t))) else none
theorem ln_char {sp : Int} {ws : List Int} (h : pos sp ws) : ∀ (left : Int) (t e : Nat) (c : Int), (e, c) ∈ ln sp left t ws ↔
    ∃ k, 1 ≤ k ∧ k ≤ ws.length ∧ e = t + k ∧ sm sp (ws.take k) ≤ left ∧ c = if k = ws.length then 0 else (left - sm sp (ws.take k)) * (left - sm sp (ws.take k)) := by
  induction ws with
  | nil => intro left t e c; simp [ln]; intro x h1 h2; omega
  | cons x r ih =>
    intro left t e c
    have hx := h.2 x (by simp)
    have hs := h.1
    rw [ln]
    by_cases hc : left - (sp + x) < 0
    · rw [if_pos hc]
      constructor
      · intro h; simp at h
      · rintro ⟨k, hk1, hk2, _, hle, _⟩
        exfalso
        cases k with
        | zero => omega
        | succ k =>
          rw [List.take_succ_cons, sm] at hle
          have := sm_nonneg (sp := sp) (l := r.take k) ⟨hs, fun y hy => h.2 y (by simp [List.mem_of_mem_take hy])⟩
          omega
    · rw [if_neg hc, List.mem_cons, ih h.tail]
      constructor
      · rintro (h1 | ⟨k, hk1, hk2, he, hle, hcc⟩)
        · injection h1 with h1 h2
          refine ⟨1, by omega, by simp, h1, by simp [sm]; omega, ?_⟩
          rw [h2]
          cases r with
          | nil => simp
          | cons y r => simp [sm]
        · refine ⟨k + 1, by omega, by simp; omega, by omega, by rw [List.take_succ_cons, sm]; omega, ?_⟩
          rw [hcc, List.take_succ_cons, sm, List.length_cons]
          by_cases hk : k = r.length
          · rw [if_pos hk, if_pos (by omega)]
          · rw [if_neg hk, if_neg (by omega), show left - (sp + x) - sm sp (r.take k) = left - (sp + x + sm sp (r.take k)) by omega]
      · rintro ⟨k, hk1, hk2, he, hle, hcc⟩
        cases k with
        | zero => omega
        | succ k =>
          rw [List.take_succ_cons, sm] at hle hcc
          cases k with
          | zero =>
            left
            subst he
            rw [hcc]
            cases r with
            | nil => simp
            | cons y r => simp [sm]
          | succ k =>
            right
            refine ⟨k + 1, by omega, by simp at hk2; omega, by omega, by omega, ?_⟩
            rw [hcc, List.length_cons]
            by_cases hk : k + 1 = r.length
            · rw [if_pos (by omega), if_pos hk]
            · rw [if_neg (by omega), if_neg hk, show left - (sp + x) - sm sp (r.take (k + 1)) = left - (sp + x + sm sp (r.take (k + 1))) by omega]
theorem lc_eq {sp rm : Int} {ws : List Int} (h : pos sp ws) (t : Nat) : lc sp rm ws t = lcS sp rm ws t := by
  apply Option.ext
  intro c
  rw [lc_mem]
  unfold lines lcS
  rw [ln_char h]
  constructor
  · rintro ⟨k, h1, h2, h3, h4, h5⟩
    obtain rfl : t = k := by omega
    rw [if_pos ⟨h1, h2, by omega⟩, h5]
  · intro h1
    split at h1
    · rename_i hc
      injection h1 with h1
      exact ⟨t, hc.1, hc.2.1, by omega, by omega, h1.symm⟩
    · cases h1
end Bk
end Go.Proofs.Ytdcndhfjfllehaa

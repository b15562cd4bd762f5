/- Plain mathematics of layer 50: everything later by a time. -/
import Derived.Test.YtofllhbcediafaaPlain8
namespace Go.Proofs.Ytofllhbcediafaa
set_option linter.unusedVariables false
set_option linter.unusedSimpArgs false
namespace Pl
def sh1 (by_ : Int) (y : Life) : Life := (y.1 + by_, if y.2 < 1099511627776 then y.2 + by_ else y.2)
def shL (by_ : Int) (x : List Life) : List Life := x.map (sh1 by_)
def shW (by_ : Int) (l : List (List Life)) : List (List Life) := l.map (shL by_)
def shD (by_ : Int) (ds : List Int) : List Int := ds.map (· + by_)
/-- no version ends beyond the end, once shifted -/
def fits1 (by_ : Int) (y : Life) : Prop := y.2 < 1099511627776 → y.2 + by_ < 1099511627776
def fits (by_ : Int) (x : List Life) : Prop := ∀ y ∈ x, fits1 by_ y

theorem shL_len (by_ : Int) (x : List Life) : (shL by_ x).length = x.length := by simp [shL]
theorem shW_len (by_ : Int) (l : List (List Life)) : (shW by_ l).length = l.length := by simp [shW]
theorem shD_len (by_ : Int) (ds : List Int) : (shD by_ ds).length = ds.length := by simp [shD]
theorem shL_take (by_ : Int) (x : List Life) (k : Nat) (h : k < x.length) : shL by_ (x.take (k + 1)) = shL by_ (x.take k) ++ [sh1 by_ x[k]] := by
  rw [List.take_succ_eq_append_getElem h]; unfold shL; rw [List.map_append]; rfl
theorem shW_take (by_ : Int) (l : List (List Life)) (k : Nat) (h : k < l.length) : shW by_ (l.take (k + 1)) = shW by_ (l.take k) ++ [shL by_ l[k]] := by
  rw [List.take_succ_eq_append_getElem h]; unfold shW; rw [List.map_append]; rfl
theorem shD_take (by_ : Int) (ds : List Int) (k : Nat) (h : k < ds.length) : shD by_ (ds.take (k + 1)) = shD by_ (ds.take k) ++ [at_ ds k + by_] := by
  rw [List.take_succ_eq_append_getElem h, at_eq ds k h]; unfold shD; rw [List.map_append]; rfl
theorem at_shD (by_ : Int) (ds : List Int) (k : Nat) (h : k < ds.length) : at_ (shD by_ ds) k = at_ ds k + by_ := by
  rw [at_eq _ _ (by rw [shD_len]; exact h), at_eq ds k h]; simp [shD]
theorem born_shL (by_ : Int) (x : List Life) (h : 0 < x.length) : born (shL by_ x) = born x + by_ := by
  cases x with
  | nil => simp at h
  | cons y r => rfl
theorem Best.shift {ds : List Int} {i b : Nat} (by_ : Int) (h : Best ds i ds.length b) : Best (shD by_ ds) i (shD by_ ds).length b := by
  rw [shD_len]
  refine ⟨h.lo, h.hi, fun j h1 h2 => ?_, fun j h1 h2 => ?_⟩
  · rw [at_shD by_ ds b h.hi, at_shD by_ ds j h2]; have := h.le j h1 h2; omega
  · have h3 : j < ds.length := by have := h.hi; omega
    rw [at_shD by_ ds b h.hi, at_shD by_ ds j h3]; have := h.lt j h1 h2; omega
theorem shown_shift (by_ : Int) (ds : List Int) (i : Nat) (hi : i < ds.length) : at_ (shown (shD by_ ds)) i = at_ (shown ds) i + by_ ∧ at_ (whys (shD by_ ds)) i = at_ (whys ds) i := by
  obtain ⟨b, hb, h1, h2⟩ := shown_best ds i hi
  obtain ⟨c, hc, h3, h4⟩ := shown_best (shD by_ ds) i (by rw [shD_len]; exact hi)
  have e := (hb.shift by_).unique hc
  subst e
  rw [h1, h2, h3, h4, at_shD by_ ds b hb.hi]
  exact ⟨rfl, rfl⟩
theorem list_ext_at {a b : List Int} (h : a.length = b.length) (h2 : ∀ i, i < a.length → at_ a i = at_ b i) : a = b := by
  apply List.ext_getElem h
  intro i h3 h4
  have := h2 i h3
  rwa [at_eq a i h3, at_eq b i h4] at this
theorem whys_shift (by_ : Int) (ds : List Int) : whys (shD by_ ds) = whys ds :=
  list_ext_at (by rw [whys_len, whys_len, shD_len]) (fun i hi => (shown_shift by_ ds i (by rw [whys_len, shD_len] at hi; exact hi)).2)
theorem gone_shift (by_ t : Int) (h0 : 0 ≤ by_) (y : Life) (hf : fits1 by_ y) : gone (t + by_) (sh1 by_ y) = gone t y := by
  unfold gone
  by_cases h : y.2 < 1099511627776
  · have h2 := hf h
    have e : (sh1 by_ y).2 = y.2 + by_ := by simp [sh1, h]
    rw [e, decide_eq_true h2, decide_eq_true h, Bool.true_and, Bool.true_and, decide_eq_decide]; omega
  · have e : (sh1 by_ y).2 = y.2 := by simp [sh1, h]
    rw [e, decide_eq_false h, Bool.false_and, Bool.false_and]
theorem lostW_shift (by_ t : Int) (h0 : 0 ≤ by_) (i : Nat) (x : List Life) (hf : fits by_ x) : (lostW i (t + by_) (shL by_ x)).length = (lostW i t x).length := by
  induction x with
  | nil => rfl
  | cons y r ih =>
    have h1 := gone_shift by_ t h0 y (hf y (by simp))
    have h2 := ih (fun z hz => hf z (by simp [hz]))
    show (lostW i (t + by_) (sh1 by_ y :: shL by_ r)).length = _
    simp only [lostW, h1]
    split <;> simp [h2]
theorem lostF_shift (by_ : Int) (h0 : 0 ≤ by_) (l : List (List Life)) (s s' : List Int) (h1 : s.length = l.length) (h2 : s'.length = l.length) (hs : ∀ i, i < l.length → at_ s' i = at_ s i + by_) (hf : ∀ x ∈ l, fits by_ x) :
    (lostF 0 (shW by_ l) s').length = (lostF 0 l s).length := by
  have key : ∀ k, k ≤ l.length → (lostF 0 ((shW by_ l).take k) s').length = (lostF 0 (l.take k) s).length := by
    intro k hk
    induction k with
    | zero => simp [lostF]
    | succ k ih =>
      have e1 := lostF_take l s k (by omega) (by omega)
      have e2 := lostF_take (shW by_ l) s' k (by rw [shW_len]; omega) (by omega)
      rw [e1, e2, List.length_append, List.length_append, ih (by omega)]
      have h3 := hs k (by omega)
      rw [at_eq s' k (by omega), at_eq s k (by omega)] at h3
      have h4 : (shW by_ l)[k]'(by rw [shW_len]; omega) = shL by_ (l[k]'(by omega)) := by simp [shW]
      rw [h4, h3, lostW_shift by_ _ h0 k _ (hf _ (List.getElem_mem (by omega)))]
  have := key l.length (Nat.le_refl _)
  rwa [List.take_of_length_le (by rw [shW_len]; exact Nat.le_refl _), List.take_of_length_le (Nat.le_refl _)] at this
end Pl
end Go.Proofs.Ytofllhbcediafaa

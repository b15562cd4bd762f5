/- Walks of the small tests: within, span, the conditions on a decision, right. -/
import Derived.Test.YtninnpcggeofmaaBase
import Derived.Test.YtninnpcggeofmaaPlain
import Derived.Laws.NewBlocks
import Derived.Laws.EntriesVeiled
namespace Go.Proofs.Ytninnpcggeofmaa
open Go.RowKit
set_option linter.unusedVariables false
set_option linter.unusedSimpArgs false

theorem al1 (w : World) (o : Obj) : Below w.heap.size w (w.alloc o) := (Below.refl _ _).alloc (Nat.le_refl _) _
theorem frozen_new {w : World} (c : Array Value) (t : TypeId) (n i : Nat) (hn : n = w.heap.size) : (w.alloc (.cells c t)).frozen? ⟨n, i, none⟩ = false := by
  subst hn
  unfold World.frozen?
  rw [World.alloc_heap_new]
  simp
attribute [local go_sem] frozen_new
theorem within_any (a lo hi : Int) (w : World) : Calls Try.prog 42 #[.int .i64 a, .int .i64 lo, .int .i64 hi] w fun e w' => e = .returned (.bool (Hh.inn a lo hi)) ∧ w = w' := by
  unfold Hh.inn
  cases h1 : decide (lo ≤ a)
  all_goals cases h2 : decide (a ≤ hi)
  all_goals
    go_enter Try.func42, Try.ntmps42
    go_wp2
    go_ret
    exact ⟨rfl, rfl⟩
theorem vwithin_any (a hi : Int) (w : World) : Calls Try.prog 50 #[.int .i64 a, .int .i64 hi] w fun e w' => e = .returned (.bool (Hh.inn a 0 (hi - 1))) ∧ w = w' := by
  unfold Hh.inn
  rw [show decide (a ≤ hi - 1) = decide (a < hi) by rw [decide_eq_decide]; omega]
  cases h1 : decide (0 ≤ a)
  all_goals cases h2 : decide (a < hi)
  all_goals
    go_enter Try.func50, Try.ntmps50
    go_wp2
    go_ret
    exact ⟨rfl, rfl⟩
theorem span_any (a b : Int) (w : World) : Calls Try.prog 76 #[.int .i64 a, .int .i64 b] w fun e w' => e = .returned (.bool (Hh.span a b)) ∧ w = w' := by
  unfold Hh.span
  cases h1 : decide (0 ≤ a)
  all_goals cases h2 : decide (a < b)
  all_goals cases h3 : decide (b ≤ 1099511627776)
  all_goals
    go_enter Try.func76, Try.ntmps76
    go_wp2
    go_ret
    exact ⟨rfl, rfl⟩
theorem refTime_any (a : Int) (w : World) : Calls Try.prog 28 #[.int .i64 a] w fun e w' => e = .returned (.bool (Hh.inn a 0 1099511627775)) ∧ w = w' := by
  unfold Hh.inn
  rw [show decide (a ≤ 1099511627775) = decide (a < 1099511627776) by rw [decide_eq_decide]; omega]
  cases h1 : decide (0 ≤ a)
  all_goals cases h2 : decide (a < 1099511627776)
  all_goals
    go_enter Try.func28, Try.ntmps28
    go_wp2
    go_ret
    exact ⟨rfl, rfl⟩
theorem refSpeaker_any (a : Int) (w : World) : Calls Try.prog 26 #[.int .i64 a] w fun e w' => e = .returned (.bool (Hh.inn a 0 63)) ∧ w = w' := by
  unfold Hh.inn
  rw [show decide (a ≤ 63) = decide (a < 64) by rw [decide_eq_decide]; omega]
  cases h1 : decide (0 ≤ a)
  all_goals cases h2 : decide (a < 64)
  all_goals
    go_enter Try.func26, Try.ntmps26
    go_wp2
    go_ret
    exact ⟨rfl, rfl⟩
theorem refLanguage_any (a : Int) (w : World) : Calls Try.prog 27 #[.int .i64 a] w fun e w' => e = .returned (.bool (Hh.inn a 0 31)) ∧ w = w' := by
  unfold Hh.inn
  rw [show decide (a ≤ 31) = decide (a < 32) by rw [decide_eq_decide]; omega]
  cases h1 : decide (0 ≤ a)
  all_goals cases h2 : decide (a < 32)
  all_goals
    go_enter Try.func27, Try.ntmps27
    go_wp2
    go_ret
    exact ⟨rfl, rfl⟩
theorem refSpan_any (a b : Int) (w : World) : Calls Try.prog 47 #[.int .i64 a, .int .i64 b] w fun e w' => e = .returned (.bool (Hh.span a b)) ∧ w = w' := by
  unfold Hh.span
  cases h1 : decide (0 ≤ a)
  all_goals cases h2 : decide (a < b)
  all_goals cases h3 : decide (b ≤ 1099511627776)
  all_goals
    go_enter Try.func47, Try.ntmps47
    go_wp2
    go_ret
    exact ⟨rfl, rfl⟩


theorem within_is {a lo hi : Int} {b : Bool} (h : Hh.inn a lo hi = b) (w : World) : Calls Try.prog 42 #[.int .i64 a, .int .i64 lo, .int .i64 hi] w fun e w' => e = .returned (.bool b) ∧ w = w' := by
  subst h; exact within_any a lo hi w
theorem span_is {a c : Int} {b : Bool} (h : Hh.span a c = b) (w : World) : Calls Try.prog 76 #[.int .i64 a, .int .i64 c] w fun e w' => e = .returned (.bool b) ∧ w = w' := by
  subst h; exact span_any a c w
theorem vwithin_is {a hi : Int} {b : Bool} (h : Hh.inn a 0 (hi - 1) = b) (w : World) : Calls Try.prog 50 #[.int .i64 a, .int .i64 hi] w fun e w' => e = .returned (.bool b) ∧ w = w' := by
  subst h; exact vwithin_any a hi w
theorem refTime_is {a : Int} {b : Bool} (h : Hh.inn a 0 1099511627775 = b) (w : World) : Calls Try.prog 28 #[.int .i64 a] w fun e w' => e = .returned (.bool b) ∧ w = w' := by
  subst h; exact refTime_any a w
theorem refSpeaker_is {a : Int} {b : Bool} (h : Hh.inn a 0 63 = b) (w : World) : Calls Try.prog 26 #[.int .i64 a] w fun e w' => e = .returned (.bool b) ∧ w = w' := by
  subst h; exact refSpeaker_any a w
theorem refLanguage_is {a : Int} {b : Bool} (h : Hh.inn a 0 31 = b) (w : World) : Calls Try.prog 27 #[.int .i64 a] w fun e w' => e = .returned (.bool b) ∧ w = w' := by
  subst h; exact refLanguage_any a w
theorem refSpan_is {a c : Int} {b : Bool} (h : Hh.span a c = b) (w : World) : Calls Try.prog 47 #[.int .i64 a, .int .i64 c] w fun e w' => e = .returned (.bool b) ∧ w = w' := by
  subst h; exact refSpan_any a c w

/-- a decision as a value -/
def vH (h : Hh) : Value := .agg #[.int .i64 h.no, .int .i64 h.kind, .int .i64 h.spk, .int .i64 h.fst, .int .i64 h.lst, .int .i64 h.lang, .int .i64 h.frm, .int .i64 h.unt, .int .i64 h.known, .int .i64 h.ms]
def BPost (b : Bool) (w : World) (e : Ending) (w' : World) : Prop := e = .returned (.bool b) ∧ Below w.heap.size w w'

theorem cond1_any (h : Hh) (w : World) : Calls Try.prog 72 #[vH h] w (BPost (Hh.c1 h) w) := by
  obtain ⟨a0, a1, a2, a3, a4, a5, a6, a7, a8, a9⟩ := h
  unfold vH Hh.c1 BPost
  dsimp only
  go_enter Try.func72, Try.ntmps72
  go_wp2_with (fail)
  cases h1 : Hh.inn a0 0 1048576
  · refine (within_is h1 _).mono ?_
    rintro e _ ⟨rfl, rfl⟩
    go_wp2_with (fail)
    go_ret
    exact ⟨ret_bool (by simp [h1]), al1 w _⟩
  · refine (within_is h1 _).mono ?_
    rintro e _ ⟨rfl, rfl⟩
    go_wp2_with (fail)
    cases h2 : Hh.inn a1 1 5
    · refine (within_is h2 _).mono ?_
      rintro e _ ⟨rfl, rfl⟩
      go_wp2_with (fail)
      go_ret
      exact ⟨ret_bool (by simp [h1, h2]), al1 w _⟩
    · refine (within_is h2 _).mono ?_
      rintro e _ ⟨rfl, rfl⟩
      go_wp2_with (fail)
      go_ret
      exact ⟨ret_bool (by simp [h1, h2]), al1 w _⟩
theorem cond2_any (h : Hh) (w : World) : Calls Try.prog 73 #[vH h] w (BPost (Hh.c2 h) w) := by
  obtain ⟨a0, a1, a2, a3, a4, a5, a6, a7, a8, a9⟩ := h
  unfold vH Hh.c2 BPost
  dsimp only
  go_enter Try.func73, Try.ntmps73
  go_wp2_with (fail)
  cases h1 : Hh.inn a2 (-1) 63
  · refine (within_is h1 _).mono ?_
    rintro e _ ⟨rfl, rfl⟩
    go_wp2_with (fail)
    go_ret
    exact ⟨ret_bool (by simp [h1]), al1 w _⟩
  · refine (within_is h1 _).mono ?_
    rintro e _ ⟨rfl, rfl⟩
    go_wp2_with (fail)
    go_ret
    exact ⟨ret_bool (by simp [h1]), al1 w _⟩
theorem cond3_any (h : Hh) (w : World) : Calls Try.prog 74 #[vH h] w (BPost (Hh.c3 h) w) := by
  obtain ⟨a0, a1, a2, a3, a4, a5, a6, a7, a8, a9⟩ := h
  unfold vH Hh.c3 BPost
  dsimp only
  go_enter Try.func74, Try.ntmps74
  go_wp2_with (fail)
  cases h1 : Hh.inn a5 (-1) 31
  · refine (within_is h1 _).mono ?_
    rintro e _ ⟨rfl, rfl⟩
    go_wp2_with (fail)
    go_ret
    exact ⟨ret_bool (by simp [h1]), al1 w _⟩
  · refine (within_is h1 _).mono ?_
    rintro e _ ⟨rfl, rfl⟩
    go_wp2_with (fail)
    go_ret
    exact ⟨ret_bool (by simp [h1]), al1 w _⟩
theorem cond4_any (h : Hh) (w : World) : Calls Try.prog 75 #[vH h] w (BPost (Hh.c4 h) w) := by
  obtain ⟨a0, a1, a2, a3, a4, a5, a6, a7, a8, a9⟩ := h
  unfold vH Hh.c4 BPost
  dsimp only
  go_enter Try.func75, Try.ntmps75
  go_wp2_with (fail)
  cases h1 : Hh.span a3 a4
  · refine (span_is h1 _).mono ?_
    rintro e _ ⟨rfl, rfl⟩
    go_wp2_with (fail)
    go_ret
    exact ⟨ret_bool (by simp [h1]), al1 w _⟩
  · refine (span_is h1 _).mono ?_
    rintro e _ ⟨rfl, rfl⟩
    go_wp2_with (fail)
    cases h2 : Hh.span a6 a7
    · refine (span_is h2 _).mono ?_
      rintro e _ ⟨rfl, rfl⟩
      go_wp2_with (fail)
      go_ret
      exact ⟨ret_bool (by simp [h1, h2]), al1 w _⟩
    · refine (span_is h2 _).mono ?_
      rintro e _ ⟨rfl, rfl⟩
      go_wp2_with (fail)
      cases h3 : Hh.inn a8 0 1099511627775
      · refine (within_is h3 _).mono ?_
        rintro e _ ⟨rfl, rfl⟩
        go_wp2_with (fail)
        go_ret
        exact ⟨ret_bool (by simp [h1, h2, h3]), al1 w _⟩
      · refine (within_is h3 _).mono ?_
        rintro e _ ⟨rfl, rfl⟩
        go_wp2_with (fail)
        go_ret
        exact ⟨ret_bool (by simp [h1, h2, h3]), al1 w _⟩
theorem cond5_any (h : Hh) (w : World) : Calls Try.prog 77 #[vH h] w (BPost (Hh.c5 h) w) := by
  obtain ⟨a0, a1, a2, a3, a4, a5, a6, a7, a8, a9⟩ := h
  unfold vH Hh.c5 BPost
  dsimp only
  by_cases hk : a1 = 3
  · have hb : (a1 != 3) = false := by simpa using hk
    rw [if_pos hk]
    clear hk
    go_enter Try.func77, Try.ntmps77
    go_wp2_with (fail)
    refine (within_any a9 1 1073741824 _).mono ?_
    rintro e _ ⟨rfl, rfl⟩
    go_wp2_with (fail)
    go_ret
    exact ⟨rfl, (al1 w _)⟩
  · have hb : (a1 != 3) = true := by simpa using hk
    rw [if_neg hk, show decide (a9 = 0) = (a9 == 0) from rfl]
    clear hk
    go_enter Try.func77, Try.ntmps77
    go_wp2_with (fail)
    go_ret
    exact ⟨rfl, (al1 w _)⟩

set_option maxHeartbeats 1000000 in
theorem conditions_any (w : World) : Calls Try.prog 61 #[] w fun e w' => e = .returned (.agg #[.func (.func 72) #[] #[], .func (.func 73) #[] #[], .func (.func 74) #[] #[], .func (.func 75) #[] #[], .func (.func 77) #[] #[]]) ∧ Below w.heap.size w w' := by
  go_enter Try.func61, Try.ntmps61
  go_wp2_with (fail)
  refine ⟨rfl, .agg #[.func (.func 72) #[] #[], .func (.func 73) #[] #[], .func (.func 74) #[] #[], .func (.func 75) #[] #[], .func (.func 77) #[] #[]], by simp [results, Try.results61, go_sem], rfl, al1 w _⟩

end Go.Proofs.Ytninnpcggeofmaa

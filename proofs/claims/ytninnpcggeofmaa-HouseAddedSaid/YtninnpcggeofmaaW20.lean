/- Walk of slices.BinarySearchFunc over a record. -/
import Derived.Test.YtninnpcggeofmaaW19
namespace Go.Proofs.Ytninnpcggeofmaa
open Go.RowKit
set_option linter.unusedVariables false
set_option linter.unusedSimpArgs false

/-- the place of a number in a record, and whether it stands there -/
def Hh.pos (l : List Hh) (n : Int) : Nat := (l.filter (fun h => decide (h.no < n))).length
def Hh.has (l : List Hh) (n : Int) : Bool := l.any (fun h => decide (h.no = n))
theorem pos_of {l : List Hh} {n : Int} {a : Nat} (ha : a ≤ l.length) (h1 : ∀ k (h : k < l.length), k < a → l[k].no < n) (h2 : ∀ k (h : k < l.length), a ≤ k → n ≤ l[k].no) : Hh.pos l n = a := by
  unfold Hh.pos
  have e : l.filter (fun h => decide (h.no < n)) = l.take a := by
    conv => lhs; rw [← List.take_append_drop a l, List.filter_append]
    rw [List.filter_eq_self.2, List.filter_eq_nil_iff.2, List.append_nil]
    · intro x hx
      obtain ⟨i, hi, rfl⟩ := List.getElem_of_mem hx
      rw [List.length_drop] at hi
      have := h2 (a + i) (by omega) (by omega)
      simp only [List.getElem_drop, decide_eq_true_eq]; omega
    · intro x hx
      obtain ⟨i, hi, rfl⟩ := List.getElem_of_mem hx
      rw [List.length_take] at hi
      simp only [List.getElem_take, decide_eq_true_eq]
      exact h1 i (by omega) (by omega)
  rw [e, List.length_take]; omega
theorem cmpI_neg (a b : Int) : decide (cmpI a b < 0) = decide (a < b) := by
  unfold cmpI
  split
  · rename_i h; simp [h]
  · rename_i h; split <;> simp [h]
theorem cmpI_eq (a b : Int) : (cmpI a b == 0) = decide (a = b) := by
  unfold cmpI
  split
  · rename_i h; have : ¬ a = b := by omega
    simp [this]
  · split
    · rename_i h h2; have : ¬ a = b := by omega
      simp [this]
    · have : a = b := by omega
      simp [this]
theorem add1_is {h : Hh} {n c : Int} (hc : cmpI h.no n = c) (w : World) : Calls Try.prog 38 #[vH h, .int .i64 n] w fun e w' => e = .returned (.int .i64 c) ∧ Below w.heap.size w w' := by subst hc; exact add1_any h n w

theorem has_at {l : List Hh} {n : Int} {a : Nat} (ha : a < l.length) (hp : ∀ (i j : Nat) (hi : i < l.length) (hj : j < l.length), i < j → l[i].no < l[j].no) (h1 : ∀ k (h : k < l.length), k < a → l[k].no < n) (h2 : ∀ k (h : k < l.length), a ≤ k → n ≤ l[k].no) : Hh.has l n = decide (l[a].no = n) := by
  unfold Hh.has
  by_cases he : l[a].no = n
  · rw [decide_eq_true he, List.any_eq_true]
    exact ⟨l[a], List.getElem_mem ha, decide_eq_true he⟩
  · rw [decide_eq_false he, List.any_eq_false]
    intro x hx
    obtain ⟨k, hk, rfl⟩ := List.getElem_of_mem hx
    rw [decide_eq_true_eq]
    intro e
    rcases Nat.lt_trichotomy k a with h | h | h
    · have := h1 k hk h; omega
    · subst h; exact he e
    · have := hp a k ha hk h
      have := h2 a ha (Nat.le_refl _)
      omega
theorem has_no {l : List Hh} {n : Int} (h1 : ∀ k (h : k < l.length), k < l.length → l[k].no < n) : Hh.has l n = false := by
  unfold Hh.has
  rw [List.any_eq_false]
  intro x hx
  obtain ⟨k, hk, rfl⟩ := List.getElem_of_mem hx
  rw [decide_eq_true_eq]
  have := h1 k hk hk
  omega

set_option maxHeartbeats 4000000 in
theorem bsearch_any (v : Value) (l : List Hh) (n : Int) (w : World) (hv : IsHs w v l) (hl : l.length ≤ 1024) (hinc : l.Pairwise (fun a b => a.no < b.no)) :
    Calls Try.prog 37 #[v, .int .i64 n, .func (.func 38) #[] #[]] w fun e w' => e = .returned (.tuple #[.int .i64 (Hh.pos l n), .bool (Hh.has l n)]) ∧ Below w.heap.size w w' := by
  obtain ⟨A, cap, rfl, hr⟩ := id hv
  have HR := Lib.hid hr
  have HPW := Lib.hid (List.pairwise_iff_getElem.1 hinc)
  clear hr hv hinc
  go_enter Try.func37, Try.ntmps37
  go_wp2_with (fail)
  go_loopw [9, 10] (fun i j wr => ∃ a b : Nat, i = .int .i64 a ∧ j = .int .i64 b ∧ a ≤ b ∧ b ≤ l.length ∧ Hid (∀ k (h : k < l.length), k < a → l[k].no < n) ∧ Hid (∀ k (h : k < l.length), b ≤ k → n ≤ l[k].no) ∧ Hid (Below w.heap.size w wr)) (fun i j _ => (intOf j).toNat - (intOf i).toNat)
  case atStart => exact ⟨0, l.length, rfl, rfl, Nat.zero_le _, Nat.le_refl _, Lib.hid (fun k h hk => by omega), Lib.hid (fun k h hk => by omega), Below.refl _ _⟩
  case round =>
    obtain ⟨a, b, rfl, rfl, hab, hbl, H1, H2, HB⟩ := hrel
    by_cases hlt : a < b
    · obtain ⟨m, hm⟩ : ∃ m, (a + b) / 2 = m := ⟨_, rfl⟩
      have hma : a ≤ m := by omega
      have hmb : m < b := by omega
      have hml : m < l.length := by omega
      obtain ⟨bb, off, rfl, hat⟩ := hs_at HR.out hml
      have HX := Lib.hid (hat.below HB.out)
      have HLO := Lib.hid (fun (hx : l[m].no < n) => (show ∀ k (h : k < l.length), k < m + 1 → l[k].no < n from fun k h hk => by
        rcases Nat.lt_or_ge k m with h3 | h3
        · have := HPW.out k m h hml h3; omega
        · have : k = m := by omega
          subst this; exact hx))
      have HHI := Lib.hid (fun (hx : ¬ l[m].no < n) => (show ∀ k (h : k < l.length), m ≤ k → n ≤ l[k].no from fun k h hk => by
        rcases Nat.lt_or_ge m k with h3 | h3
        · have := HPW.out m k hml h h3; omega
        · have : k = m := by omega
          subst this; omega))
      generalize l[m] = x at *
      have hw1 : IntKind.i64.wrap ((a : Int) + (b : Int)) = (a : Int) + (b : Int) := by rw [IntKind.wrap_i64]; omega
      clear hat
      have q0 := HX.out.c0
      have q1 := HX.out.c1
      have q2 := HX.out.c2
      have q3 := HX.out.c3
      have q4 := HX.out.c4
      have q5 := HX.out.c5
      have q6 := HX.out.c6
      have q7 := HX.out.c7
      have q8 := HX.out.c8
      have q9 := HX.out.c9
      have hlt2 : (a : Int) < (b : Int) := by omega
      have hw2 : IntKind.i64.wrap (((a : Int) + (b : Int)) / 2 + 1) = ((a : Int) + (b : Int)) / 2 + 1 := by rw [IntKind.wrap_i64]; omega
      obtain ⟨c, hc⟩ : ∃ c, cmpI x.no n = c := ⟨_, rfl⟩
      have HC := Lib.hid (fun W => add1_is hc W)
      have HCN := Lib.hid (hc ▸ cmpI_neg x.no n)
      clear hc
      go_wp2_with (fail)
      refine (HC.out _).mono ?_
      rintro e w2 ⟨rfl, b2⟩
      have HB2 := Lib.hid (HB.out.up b2)
      clear b2 HX HB HC q0 q1 q2 q3 q4 q5 q6 q7 q8 q9
      cases d : decide (c < 0)
      · have HHX := Lib.hid (HHI.out (by have := HCN.out; rw [d] at this; simpa using this.symm))
        go_wp2_with (fail)
        go_roundw
        case rel => exact ⟨a, m, rfl, by congr 1; omega, hma, by omega, H1, HHX, HB2⟩
        case measure => simp [intOf]; omega
      · have HLX := Lib.hid (HLO.out (by have := HCN.out; rw [d] at this; simpa using this.symm))
        go_wp2_with (fail)
        go_roundw
        case rel => exact ⟨m + 1, b, by congr 1; omega, rfl, by omega, hbl, HLX, H2, HB2⟩
        case measure => simp [intOf]; omega
    · have hab2 : a = b := by omega
      subst hab2
      have hps := Lib.hid (pos_of hbl H1.out H2.out)
      by_cases hal : a < l.length
      · have hha := Lib.hid (has_at hal HPW.out H1.out H2.out)
        obtain ⟨bb, off, rfl, hat⟩ := hs_at HR.out hal
        have HX := Lib.hid (hat.below HB.out)
        generalize l[a] = x at *
        clear hat

        have q0 := HX.out.c0
        have q1 := HX.out.c1
        have q2 := HX.out.c2
        have q3 := HX.out.c3
        have q4 := HX.out.c4
        have q5 := HX.out.c5
        have q6 := HX.out.c6
        have q7 := HX.out.c7
        have q8 := HX.out.c8
        have q9 := HX.out.c9
        obtain ⟨c, hc⟩ : ∃ c, cmpI x.no n = c := ⟨_, rfl⟩
        have HC := Lib.hid (fun W => add1_is hc W)
        have HCE := Lib.hid (hc ▸ cmpI_eq x.no n)
        have hal2 : decide ((a : Int) < (l.length : Int)) = true := by rw [decide_eq_true_eq]; omega
        clear hc
        go_wp2_with (fail)
        refine (HC.out _).mono ?_
        rintro e w2 ⟨rfl, b2⟩
        have HB2 := Lib.hid (HB.out.up b2)
        clear b2 HX HB HC q0 q1 q2 q3 q4 q5 q6 q7 q8 q9
        go_wp2_with (fail)
        go_ret2
        exact ⟨by rw [hps.out, hha.out, ← HCE.out]; rfl, HB2.out⟩
      · have hal2 : decide ((a : Int) < (l.length : Int)) = false := by rw [decide_eq_false_iff_not]; omega
        have hha := Lib.hid (has_no (n := n) (fun k h _ => H1.out k h (by omega)))
        go_wp2_with (fail)
        go_ret2
        exact ⟨by rw [hps.out, hha.out]; rfl, HB.out⟩

end Go.Proofs.Ytninnpcggeofmaa

/- Walk of slices.BinarySearchFunc over a record of amendments. -/
import Derived.Test.YtcifhigeieoogaaW7
namespace Go.Proofs.Ytcifhigeieoogaa
open Go.RowKit
set_option linter.unusedVariables false
set_option linter.unusedSimpArgs false
attribute [local go_sem] frozen_new
theorem pos_of {l : List Am} {n : Int} {a : Nat} (ha : a ≤ l.length) (h1 : ∀ k (h : k < l.length), k < a → l[k].no < n) (h2 : ∀ k (h : k < l.length), a ≤ k → n ≤ l[k].no) : Vn.pos l n = a := by
  unfold Vn.pos
  have e : l.filter (fun h => decide (h.no < n)) = l.take a := by
    conv => lhs; rw [← List.take_append_drop a l, List.filter_append]
    rw [List.filter_eq_self.2, List.filter_eq_nil_iff.2, List.append_nil]
    · intro x hx
      obtain ⟨i, hi, rfl⟩ := List.getElem_of_mem hx
      rw [List.length_drop] at hi
      have := h2 (a + i) (by omega) (by omega)
      simp only [List.getElem_drop, decide_eq_true_eq]; omega
    · intro x hx
      obtain ⟨i, hi, rfl⟩ := List.getElem_of_mem hx
      rw [List.length_take] at hi
      simp only [List.getElem_take, decide_eq_true_eq]
      exact h1 i (by omega) (by omega)
  rw [e, List.length_take]; omega
theorem has_at {l : List Am} {n : Int} {a : Nat} (ha : a < l.length) (hp : ∀ (i j : Nat) (hi : i < l.length) (hj : j < l.length), i < j → l[i].no < l[j].no) (h1 : ∀ k (h : k < l.length), k < a → l[k].no < n) (h2 : ∀ k (h : k < l.length), a ≤ k → n ≤ l[k].no) : Vn.has l n = decide (l[a].no = n) := by
  unfold Vn.has
  by_cases he : l[a].no = n
  · rw [decide_eq_true he, List.any_eq_true]
    exact ⟨l[a], List.getElem_mem ha, decide_eq_true he⟩
  · rw [decide_eq_false he, List.any_eq_false]
    intro x hx
    obtain ⟨k, hk, rfl⟩ := List.getElem_of_mem hx
    rw [decide_eq_true_eq]
    intro e
    rcases Nat.lt_trichotomy k a with h | h | h
    · have := h1 k hk h; omega
    · subst h; exact he e
    · have := hp a k ha hk h
      have := h2 a ha (Nat.le_refl _)
      omega
theorem has_no {l : List Am} {n : Int} (h1 : ∀ k (h : k < l.length), k < l.length → l[k].no < n) : Vn.has l n = false := by
  unfold Vn.has
  rw [List.any_eq_false]
  intro x hx
  obtain ⟨k, hk, rfl⟩ := List.getElem_of_mem hx
  rw [decide_eq_true_eq]
  have := h1 k hk hk
  omega
theorem ntuple_ret (i : Nat) (b : Bool) {j : Nat} {c : Bool} (h1 : i = j) (h2 : b = c) : Ending.returned (.tuple #[.int .i64 (i : Int), .bool b]) = Ending.returned (.tuple #[.int .i64 (j : Int), .bool c]) := by subst h1 h2; rfl

set_option maxHeartbeats 8000000 in
theorem bsearch_any (v : Value) (l : List Am) (t : Am) (w : World) (hv : IsAs w v l) (hl : l.length ≤ 4096) (hinc : l.Pairwise (fun a b => a.no < b.no)) :
    Calls Try.prog 24 #[v, vA t, .func (.func 25) #[] #[]] w fun e w' => e = .returned (.tuple #[.int .i64 (Vn.pos l t.no), .bool (Vn.has l t.no)]) ∧ Below w.heap.size w w' := by
  obtain ⟨A, cap, rfl, hr⟩ := id hv
  have HR := Lib.hid hr
  have HPW := Lib.hid (List.pairwise_iff_getElem.1 hinc)
  have HT0 := Lib.hid (BoxA.new w t)
  have HB0 := Lib.hid (al1 w (.cells #[.int .i64 t.no, .int .i64 t.at_, .int .i64 t.known, .int .i64 t.key, .int .i64 t.value, .bool t.gone] 27))
  clear hr hv hinc
  have hvv : vA t = vA t := rfl
  unfold vA
  clear hvv
  go_enter Try.func24, Try.ntmps24
  go_wp2_with (fail)
  go_loopw [9, 10] (fun i j wr => ∃ a b : Nat, i = .int .i64 a ∧ j = .int .i64 b ∧ a ≤ b ∧ b ≤ l.length ∧ Hid (∀ k (h : k < l.length), k < a → l[k].no < t.no) ∧ Hid (∀ k (h : k < l.length), b ≤ k → t.no ≤ l[k].no) ∧ Hid (Below w.heap.size w wr) ∧ Hid (BoxA wr w.heap.size t)) (fun i j _ => (intOf j).toNat - (intOf i).toNat)
  case atStart => exact ⟨0, l.length, rfl, rfl, Nat.zero_le _, Nat.le_refl _, Lib.hid (fun k h hk => by omega), Lib.hid (fun k h hk => by omega), HB0, HT0⟩
  case round =>
    obtain ⟨a, b, rfl, rfl, hab, hbl, H1, H2, HB, HT⟩ := hrel
    clear HB0 HT0
    by_cases hlt : a < b
    · obtain ⟨m, hm⟩ : ∃ m, (a + b) / 2 = m := ⟨_, rfl⟩
      have hma : a ≤ m := by omega
      have hmb : m < b := by omega
      have hml : m < l.length := by omega
      obtain ⟨bb, off, rfl, hat⟩ := IsAs_at HR.out hml
      have HX := Lib.hid (hat.below HB.out)
      have HLO := Lib.hid (fun (hx : l[m].no < t.no) => (show ∀ k (h : k < l.length), k < m + 1 → l[k].no < t.no from fun k h hk => by
        rcases Nat.lt_or_ge k m with h3 | h3
        · have := HPW.out k m h hml h3; omega
        · have : k = m := by omega
          subst this; exact hx))
      have HHI := Lib.hid (fun (hx : ¬ l[m].no < t.no) => (show ∀ k (h : k < l.length), m ≤ k → t.no ≤ l[k].no from fun k h hk => by
        rcases Nat.lt_or_ge m k with h3 | h3
        · have := HPW.out m k hml h h3; omega
        · have : k = m := by omega
          subst this; omega))
      generalize l[m] = x at *
      have hw1 : IntKind.i64.wrap ((a : Int) + (b : Int)) = (a : Int) + (b : Int) := by rw [IntKind.wrap_i64]; omega
      clear hat
      have q0 := BW.cell HX.out.c0
      have q1 := BW.cell HX.out.c1
      have q2 := BW.cell HX.out.c2
      have q3 := BW.cell HX.out.c3
      have q4 := BW.cell HX.out.c4
      have q5 := BW.cell HX.out.c5
      have p0 := BW.cell HT.out.c0
      have p1 := BW.cell HT.out.c1
      have p2 := BW.cell HT.out.c2
      have p3 := BW.cell HT.out.c3
      have p4 := BW.cell HT.out.c4
      have p5 := BW.cell HT.out.c5
      have hlt2 : (a : Int) < (b : Int) := by omega
      have hw2 : IntKind.i64.wrap (((a : Int) + (b : Int)) / 2 + 1) = ((a : Int) + (b : Int)) / 2 + 1 := by rw [IntKind.wrap_i64]; omega
      obtain ⟨c, hc⟩ : ∃ c, cmpI x.no t.no = c := ⟨_, rfl⟩
      have HC := Lib.hid (fun W => byNo_is hc W)
      have HCN := Lib.hid (hc ▸ cmpI_neg x.no t.no)
      clear hc
      go_wp2_with (fail)
      refine wp_region_kept (by kernel_rfl) ?_
      repeat (go_big_quiet_step (exact BW.call (HC.out _) (fun _ _ h => h)))
      rintro _ ⟨nq, rfl⟩
      have HB2 := Lib.hid (HB.out.up nq.h)
      have HT2 := Lib.hid (HT.out.upb nq.h)
      clear HX HB HT HC q0 q1 q2 q3 q4 q5 p0 p1 p2 p3 p4 p5
      cases d : decide (c < 0)
      · have HHX := Lib.hid (HHI.out (by have := HCN.out; rw [d] at this; simpa using this.symm))
        go_wp2_with (fail)
        go_roundw
        case rel => exact ⟨a, m, rfl, by congr 1; omega, hma, by omega, H1, HHX, HB2, HT2⟩
        case measure => simp [intOf]; omega
      · have HLX := Lib.hid (HLO.out (by have := HCN.out; rw [d] at this; simpa using this.symm))
        go_wp2_with (fail)
        go_roundw
        case rel => exact ⟨m + 1, b, by congr 1; omega, rfl, by omega, hbl, HLX, H2, HB2, HT2⟩
        case measure => simp [intOf]; omega
    · have hab2 : a = b := by omega
      subst hab2
      have hps := Lib.hid (pos_of hbl H1.out H2.out)
      by_cases hal : a < l.length
      · have hha := Lib.hid (has_at hal HPW.out H1.out H2.out)
        obtain ⟨bb, off, rfl, hat⟩ := IsAs_at HR.out hal
        have HX := Lib.hid (hat.below HB.out)
        generalize l[a] = x at *
        clear hat
        have q0 := BW.cell HX.out.c0
        have q1 := BW.cell HX.out.c1
        have q2 := BW.cell HX.out.c2
        have q3 := BW.cell HX.out.c3
        have q4 := BW.cell HX.out.c4
        have q5 := BW.cell HX.out.c5
        have p0 := BW.cell HT.out.c0
        have p1 := BW.cell HT.out.c1
        have p2 := BW.cell HT.out.c2
        have p3 := BW.cell HT.out.c3
        have p4 := BW.cell HT.out.c4
        have p5 := BW.cell HT.out.c5
        obtain ⟨c, hc⟩ : ∃ c, cmpI x.no t.no = c := ⟨_, rfl⟩
        have HC := Lib.hid (fun W => byNo_is hc W)
        have HCE := Lib.hid (hc ▸ cmpI_eq x.no t.no)
        have hal2 : decide ((a : Int) < (l.length : Int)) = true := by rw [decide_eq_true_eq]; omega
        have hal3 : a < l.length := hal
        clear hc
        go_wp2_with (fail)
        refine wp_region_kept (by kernel_rfl) ?_
        repeat (go_big_quiet_step (exact BW.call (HC.out _) (fun _ _ h => h)))
        rintro _ ⟨nq, rfl⟩
        have HB2 := Lib.hid (HB.out.up nq.h)
        clear HX HB HT HC q0 q1 q2 q3 q4 q5 p0 p1 p2 p3 p4 p5
        go_wp2_with (fail)
        go_ret2
        exact ⟨ntuple_ret _ _ (by rw [hps.out]) (by rw [hha.out, ← HCE.out]), HB2.out⟩
      · have hal2 : decide ((a : Int) < (l.length : Int)) = false := by rw [decide_eq_false_iff_not]; omega
        have hha := Lib.hid (has_no (n := t.no) (fun k h _ => H1.out k h (by omega)))
        go_wp2_with (fail)
        refine wp_region_kept (by kernel_rfl) ?_
        repeat (go_big_quiet_step (fail))
        rintro _ ⟨nq, rfl⟩
        go_wp2_with (fail)
        go_ret2
        exact ⟨ntuple_ret _ _ (by rw [hps.out]) (by rw [hha.out]), HB.out.up nq.h⟩
end Go.Proofs.Ytcifhigeieoogaa

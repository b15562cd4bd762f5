/- Walks of the statements PortionsSpec, PortionsAcceptsSpec and PortionsOnly. -/
import Derived.Test.YtagbdjdphghflaaW6
import Derived.OpenShut
namespace Go.Proofs.Ytagbdjdphghflaa
open Go.RowKit

/-- what the row's shell says of a slice of ints that came in -/
theorem ints_of_row {w : World} {a : Option Addr} {len cap : Nat} {zs : List Int}
    (h : (a = none ∧ len = 0 ∧ cap = 0 ∧ zs = []) ∨
      ∃ x, a = some x ∧ len ≤ cap ∧ cap ≤ maxLen ∧ zs.length = cap ∧ (∀ i, i < zs.length → w.cell? (x.add i) = some (.int .i64 (zs.getD i 0))) ∧ ∀ n ∈ zs, (Lit.int .i64 n).wf = true) :
    ∃ xs : List Int, IsInts w (.slice a len cap) xs ∧ xs.length ≤ 9223372036854775807 ∧ ∀ x ∈ xs, -9223372036854775808 ≤ x ∧ x ≤ 9223372036854775807 := by
  rcases h with ⟨rfl, rfl, rfl, rfl⟩ | ⟨x, rfl, hl, hm, hz, hc, hwf⟩
  · exact ⟨[], IsInts.nil, by simp, by simp⟩
  · have hlen : (zs.take len).length = len := by simp; omega
    refine ⟨zs.take len, ?_, by rw [hlen]; unfold maxLen at hm; omega, fun y hy => bounds_i64 (hwf y (List.mem_of_mem_take hy))⟩
    refine ⟨some x, cap, by rw [hlen], fun hne => ?_⟩
    have hpos : 0 < len := by
      rcases Nat.eq_zero_or_pos len with h0 | h0
      · subst h0; simp at hne
      · exact h0
    obtain ⟨b, off, rfl, hcc⟩ := _root_.Go.ints_at hc (by omega)
    refine ⟨b, off, rfl, ?_, fun i hi => ?_⟩
    · have := hcc 0 (by omega)
      unfold World.cell? at this
      rcases Nat.lt_or_ge b w.heap.size with h | h
      · exact h
      · simp [Array.getElem?_eq_none h] at this
    · simp only [List.length_map, hlen] at hi
      rw [hcc i (by omega)]
      simp [List.getD_eq_getElem?_getD, List.getElem?_eq_getElem (show i < zs.length by omega)]

set_option maxHeartbeats 1000000 in
theorem PortionsSpec_any (c : Int) (v : Value) (xs : List Int) (w : World) (hv : IsInts w v xs) (hl : xs.length ≤ 9223372036854775807) :
    Calls Try.prog 3 #[.int .i64 c, v] w fun e w' => e = .returned (.bool true) ∧ Below w.heap.size w w' := by
  have HV := Lib.hid hv
  obtain ⟨A, cap, rfl, hr⟩ := hv
  clear hr
  go_enter Try.func3, Try.ntmps3
  go_wp2_with (fail)
  refine (sane_any _).mono ?_
  rintro e w1 ⟨rfl, hb1⟩
  by_cases h100 : 100 < xs.length
  · go_wp2_with (fail)
    go_ret
    exact ⟨rfl, hb1⟩
  · have hdl : (divideR c xs).length ≤ 9223372036854775807 := by
      unfold divideR Pl.divide; split
      · rw [Pl.dv_length]; exact hl
      · simp
    go_wp2_with (fail)
    refine (Divide_any c _ xs _ (HV.out.below hb1) hl).mono ?_
    rintro e w2 ⟨⟨x, rfl, hx⟩, hb2⟩
    have HX := Lib.hid hx
    obtain ⟨A3, cap3, rfl, hr3⟩ := hx
    have hw2 := hb1.up hb2
    clear hr3 hb1 hb2
    go_wp2_with (fail)
    refine (refDivide_any c _ xs _ (HV.out.below hw2) hl).mono ?_
    rintro e w3 ⟨⟨y, rfl, hy⟩, hb3⟩
    have HY := Lib.hid hy
    obtain ⟨A4, cap4, rfl, hr4⟩ := hy
    have hw3 := hw2.up hb3
    clear hr4 hw2
    go_wp2_with (fail)
    refine (Level_any c _ xs _ (HV.out.below hw3) hl).mono ?_
    rintro e w4 ⟨rfl, hb4⟩
    have hw4 := hw3.up hb4
    clear hw3
    go_wp2_with (fail)
    refine (refLevel_any c _ xs _ (HV.out.below hw4) hl).mono ?_
    rintro e w5 ⟨rfl, rfl⟩
    go_wp2_with (fail)
    refine (sameInts_any _ _ (divideR c xs) (divideR c xs) _ (HX.out.below (hb3.up hb4)) (HY.out.below hb4) hdl hdl).mono ?_
    rintro e w6 ⟨rfl, q, rfl⟩
    rw [show decide (divideR c xs = divideR c xs) = true by simp]
    go_wp2_with (fail)
    go_ret
    exact ⟨by simp, below_drewN hw4 _⟩

set_option maxHeartbeats 1000000 in
theorem PortionsAcceptsSpec_any (c : Int) (v u : Value) (xs ls : List Int) (w : World) (hv : IsInts w v xs) (hu : IsInts w u ls) (hl : xs.length ≤ 9223372036854775807) (hl2 : ls.length ≤ 9223372036854775807) :
    Calls Try.prog 4 #[.int .i64 c, v, u] w fun e w' => e = .returned (.bool true) ∧ Below w.heap.size w w' := by
  have HV := Lib.hid hv
  obtain ⟨A, cap, rfl, hr⟩ := hv
  have HU := Lib.hid hu
  obtain ⟨A2, cap2, rfl, hr2⟩ := hu
  clear hr hr2
  go_enter Try.func4, Try.ntmps4
  go_wp2_with (fail)
  refine (sane_any _).mono ?_
  rintro e w1 ⟨rfl, hb1⟩
  by_cases h100 : 100 < xs.length
  · go_wp2_with (fail)
    go_ret
    exact ⟨rfl, hb1⟩
  · by_cases h100' : 100 < ls.length
    · go_wp2_with (fail)
      go_ret
      exact ⟨rfl, hb1⟩
    · go_wp2_with (fail)
      refine (Accepts_any c _ _ xs ls _ (HV.out.below hb1) (HU.out.below hb1) hl hl2).mono ?_
      rintro e w2 ⟨rfl, hb2⟩
      have hw2 := hb1.up hb2
      clear hb1 hb2
      go_wp2_with (fail)
      refine (refAccepts_any c _ _ xs ls _ (HV.out.below hw2) (HU.out.below hw2) hl hl2).mono ?_
      rintro e w3 ⟨rfl, hb3⟩
      go_wp2_with (fail)
      go_ret
      exact ⟨by simp, hw2.up hb3⟩

set_option maxHeartbeats 1000000 in
theorem PortionsOnly_any (c : Int) (v u : Value) (xs ls : List Int) (w : World) (hv : IsInts w v xs) (hu : IsInts w u ls) (hl : xs.length ≤ 9223372036854775807) (hl2 : ls.length ≤ 9223372036854775807) :
    Calls Try.prog 8 #[.int .i64 c, v, u] w fun e w' => e = .returned (.bool true) ∧ Below w.heap.size w w' := by
  have HV := Lib.hid hv
  obtain ⟨A, cap, rfl, hr⟩ := hv
  have HU := Lib.hid hu
  obtain ⟨A2, cap2, rfl, hr2⟩ := hu
  clear hr hr2
  by_cases he : Pl.err c xs = 0
  · have HDR := Lib.hid (show divideR c xs = Pl.divide c xs by simp [divideR, he])
    have hdl : (Pl.divide c xs).length ≤ 9223372036854775807 := by unfold Pl.divide; rw [Pl.dv_length]; exact hl
    have HA1 := Lib.hid (show accR c xs (Pl.divide c xs) = true by simp [accR, he, HDR.out])
    have HA2 := Lib.hid (show accR c xs ls = decide (Pl.divide c xs = ls) by simp [accR, he, HDR.out])
    have HE := Lib.hid he
    clear he
    go_enter Try.func8, Try.ntmps8
    go_wp2_with (fail)
    refine (sane_any _).mono ?_
    rintro e w1 ⟨rfl, hb1⟩
    go_wp2_with (fail)
    refine (divided_yes c _ xs _ (HV.out.below hb1) hl HE.out).mono ?_
    rintro e w2 ⟨⟨x, rfl, hx⟩, hb2⟩
    have HX := Lib.hid hx
    obtain ⟨A3, cap3, rfl, hr3⟩ := hx
    have hw2 := hb1.up hb2
    clear hr3 hb1 hb2
    go_wp2_with (fail)
    refine (Accepts_any c _ _ xs (Pl.divide c xs) _ (HV.out.below hw2) HX.out hl hdl).mono ?_
    rintro e w3 ⟨rfl, hb3⟩
    rw [HE.out, HA1.out]
    have hw3 := hw2.up hb3
    clear hw2
    go_wp2_with (fail)
    refine (Accepts_any c _ _ xs ls _ (HV.out.below hw3) (HU.out.below hw3) hl hl2).mono ?_
    rintro e w4 ⟨rfl, hb4⟩
    rw [HE.out, HA2.out]
    have hw4 := hw3.up hb4
    clear hw3
    go_wp2_with (fail)
    refine (sameInts_any _ _ (Pl.divide c xs) ls _ (HX.out.below (hb3.up hb4)) (HU.out.below hw4) hdl hl2).mono ?_
    rintro e w6 ⟨rfl, q, rfl⟩
    go_wp2_with (fail)
    go_ret
    exact ⟨by simp, below_drewN hw4 _⟩
  · go_enter Try.func8, Try.ntmps8
    go_wp2_with (fail)
    refine (sane_any _).mono ?_
    rintro e w1 ⟨rfl, hb1⟩
    go_wp2_with (fail)
    refine (divided_no c _ xs _ (HV.out.below hb1) hl he).mono ?_
    rintro e w2 ⟨rfl, hb2⟩
    go_wp2_with (fail)
    go_ret
    exact ⟨rfl, hb1.up hb2⟩

end Go.Proofs.Ytagbdjdphghflaa

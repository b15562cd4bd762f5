/- The statements ScreensSpec and ScreensProveSpec, walked. -/
import Derived.Test.YtchjjcmlekknfaaW18
namespace Go.Proofs.Ytchjjcmlekknfaa
open Go.RowKit
set_option linter.unusedVariables false
set_option linter.unusedSimpArgs false

theorem few_is {A A2 : Option Addr} {n cap n2 cap2 : Nat} {b : Bool} {w : World} (h : (fewN n && fewN n2) = b) : Calls Try.prog 10 #[.slice A n cap, .slice A2 n2 cap2] w fun e w' => e = .returned (.bool b) ∧ w = w' := by subst h; exact few_any A A2 n cap n2 cap2 w

set_option maxHeartbeats 4000000 in
set_option maxRecDepth 100000 in
theorem ScreensSpec_any (v u : Value) (r d : List Int) (m f : Int) (w : World) (hv : IsInts w v r) (hu : IsInts w u d) (hl : r.length ≤ 9223372036854775807) (hl2 : d.length ≤ 9223372036854775807) : Calls Try.prog 3 #[v, u, .int .i64 m, .int .i64 f] w fun e w' => e = .returned (.bool true) ∧ Below w.heap.size w w' := by
  have HV := Lib.hid hv
  have HU := Lib.hid hu
  obtain ⟨A, c, rfl, _⟩ := id hv
  obtain ⟨A2, c2, rfl, _⟩ := id hu
  have HL := Lib.hid (And.intro hl hl2)
  obtain ⟨e0, he⟩ : ∃ e, Sc.errQ r d m f = e := ⟨_, rfl⟩
  obtain ⟨D, hD⟩ : ∃ e, gD r d m f = e := ⟨_, rfl⟩
  have HE := Lib.hid (And.intro he hD)
  have HG := Lib.hid (show (gL r d m f).length ≤ 9223372036854775807 by
    unfold gL
    split
    · rename_i h0
      have g := (Sc.best_best (q := Sc.mkQ r d m f) (Sc.ok_of h0).m1 0 0 (Nat.zero_le _)).grp
      have h1 := Sc.grp_len g
      have h2 := (Sc.ok_of h0).n
      rw [Sc.toI_len]; omega
    · simp)
  clear hv hu he hD
  go_enter Try.func3, Try.ntmps3
  go_wp2_with (fail)
  refine (sane_any _).mono ?_
  rintro e w1 ⟨rfl, b1⟩
  have HB1 := Lib.hid b1
  clear b1
  go_wp2_with (fail)
  cases hf : (fewN r.length && fewN d.length)
  · refine (few_is hf).mono ?_
    rintro e _ ⟨rfl, rfl⟩
    go_wp2_with (fail)
    go_ret
    exact ⟨rfl, HB1.out⟩
  refine (few_is hf).mono ?_
  rintro e _ ⟨rfl, rfl⟩
  clear hf
  go_wp2_with (fail)
  refine (grp_call (HV.out.upb HB1.out) (HU.out.upb HB1.out) HL.out.1 HL.out.2 HE.out.1 rfl HE.out.2).mono ?_
  rintro e w2 ⟨B1, k1, rfl, i1, b2⟩
  have HB2 := Lib.hid (HB1.out.up b2)
  have HI := Lib.hid i1
  clear i1 b2 HB1
  go_wp2_with (fail)
  refine (rgrp_call (HV.out.upb HB2.out) (HU.out.upb HB2.out) HL.out.1 HL.out.2 HE.out.1 rfl HE.out.2).mono ?_
  rintro e w3 ⟨B2, k2, rfl, i2, b3⟩
  have HB3 := Lib.hid (HB2.out.up b3)
  have HI := Lib.hid (HI.out.upb b3)
  have HJ := Lib.hid i2
  clear i2 b3 HB2
  go_wp2_with (fail)
  refine (same_call (b := true) HI.out HJ.out HG.out HG.out (by simp)).mono ?_
  rintro e w4 ⟨rfl, b4⟩
  have HB4 := Lib.hid (HB3.out.up b4)
  clear b4
  go_wp2_with (fail)
  go_ret
  exact ⟨rfl, HB4.out⟩

set_option maxHeartbeats 4000000 in
set_option maxRecDepth 100000 in
theorem ScreensProveSpec_any (v u z y : Value) (r d es h : List Int) (m f : Int) (w : World) (hv : IsInts w v r) (hu : IsInts w u d) (hl : r.length ≤ 9223372036854775807) (hl2 : d.length ≤ 9223372036854775807) (hz : IsInts w z es) (hy : IsInts w y h) (hl3 : es.length ≤ 9223372036854775807) (hl4 : h.length ≤ 9223372036854775807)
    (hc1 : ∀ A n c, v = .slice A n c → n ≤ c) (hc2 : ∀ A n c, u = .slice A n c → n ≤ c) :
    Calls Try.prog 4 #[v, u, .int .i64 m, .int .i64 f, z, y] w fun e w' => e = .returned (.bool true) ∧ Below w.heap.size w w' := by
  have HV := Lib.hid hv
  have HU := Lib.hid hu
  have HZ := Lib.hid hz
  have HY := Lib.hid hy
  have HC := Lib.hid (And.intro hc1 hc2)
  obtain ⟨A, c, rfl, _⟩ := id hv
  obtain ⟨A2, c2, rfl, _⟩ := id hu
  obtain ⟨A3, c3, rfl, _⟩ := id hz
  obtain ⟨A4, c4, rfl, _⟩ := id hy
  have HL := Lib.hid (And.intro hl hl2)
  have HL3 := Lib.hid (And.intro hl3 hl4)
  obtain ⟨e0, he⟩ : ∃ e, Sc.errQ r d m f = e := ⟨_, rfl⟩
  obtain ⟨b, hb⟩ : ∃ e, aB r d m f es h = e := ⟨_, rfl⟩
  have HE := Lib.hid (And.intro he hb)
  have HG := Lib.hid (show (pL r d m f).length ≤ 9223372036854775807 by
    unfold pL
    split
    · rename_i h0
      have h2 := (Sc.ok_of h0).n
      have h3 : (Sc.mkQ r d m f).r.length = r.length := rfl
      rw [Sc.hs_len]; omega
    · simp)
  clear hv hu he hb hz hy hc1 hc2
  go_enter Try.func4, Try.ntmps4
  go_wp2_with (fail)
  refine (sane_any _).mono ?_
  rintro e w1 ⟨rfl, b1⟩
  have HB1 := Lib.hid b1
  clear b1
  go_wp2_with (fail)
  cases hf : (fewN r.length && fewN d.length)
  · refine (few_is hf).mono ?_
    rintro e _ ⟨rfl, rfl⟩
    go_wp2_with (fail)
    go_ret
    exact ⟨rfl, HB1.out⟩
  by_cases h5 : 100 < es.length
  · have hd5 : decide ((100 : Int) < (es.length : Int)) = true := by rw [decide_eq_true_eq]; omega
    refine (few_is hf).mono ?_
    rintro e _ ⟨rfl, rfl⟩
    go_wp2_with (fail)
    go_ret
    exact ⟨rfl, HB1.out⟩
  have hd5 : decide ((100 : Int) < (es.length : Int)) = false := by rw [decide_eq_false_iff_not]; omega
  by_cases h6 : 100 < h.length
  · have hd6 : decide ((100 : Int) < (h.length : Int)) = true := by rw [decide_eq_true_eq]; omega
    refine (few_is hf).mono ?_
    rintro e _ ⟨rfl, rfl⟩
    go_wp2_with (fail)
    go_ret
    exact ⟨rfl, HB1.out⟩
  have hd6 : decide ((100 : Int) < (h.length : Int)) = false := by rw [decide_eq_false_iff_not]; omega
  refine (few_is hf).mono ?_
  rintro e _ ⟨rfl, rfl⟩
  clear hf
  go_wp2_with (fail)
  refine (prv_call (HV.out.upb HB1.out) (HU.out.upb HB1.out) HL.out.1 HL.out.2 HE.out.1 rfl).mono ?_
  rintro e w2 ⟨B1, k1, rfl, i1, b2⟩
  have HB2 := Lib.hid (HB1.out.up b2)
  have HI := Lib.hid i1
  clear i1 b2 HB1
  go_wp2_with (fail)
  refine (rprv_call (HV.out.upb HB2.out) (HU.out.upb HB2.out) HL.out.1 HL.out.2 HC.out.1 HC.out.2 HE.out.1 rfl).mono ?_
  rintro e w3 ⟨B2, k2, rfl, i2, b3⟩
  have HB3 := Lib.hid (HB2.out.up b3)
  have HI := Lib.hid (HI.out.upb b3)
  have HJ := Lib.hid i2
  clear i2 b3 HB2
  go_wp2_with (fail)
  refine (acc_call (HV.out.upb HB3.out) (HU.out.upb HB3.out) (HZ.out.upb HB3.out) (HY.out.upb HB3.out) HL.out.1 HL.out.2 HL3.out.1 HL3.out.2 HE.out.1 HE.out.2).mono ?_
  rintro e w4 ⟨rfl, b4⟩
  have HB4 := Lib.hid (HB3.out.up b4)
  have HI := Lib.hid (HI.out.upb b4)
  have HJ := Lib.hid (HJ.out.upb b4)
  clear b4 HB3
  go_wp2_with (fail)
  refine (racc_call (HV.out.upb HB4.out) (HU.out.upb HB4.out) (HZ.out.upb HB4.out) (HY.out.upb HB4.out) HL.out.1 HL.out.2 HL3.out.1 HL3.out.2 HE.out.1 HE.out.2).mono ?_
  rintro e w5 ⟨rfl, b5⟩
  have HB5 := Lib.hid (HB4.out.up b5)
  have HI := Lib.hid (HI.out.upb b5)
  have HJ := Lib.hid (HJ.out.upb b5)
  clear b5 HB4
  go_wp2_with (fail)
  refine (same_call (b := true) HI.out HJ.out HG.out HG.out (by simp)).mono ?_
  rintro e w6 ⟨rfl, b6⟩
  have HB6 := Lib.hid (HB5.out.up b6)
  clear b6
  cases b
  all_goals
    go_wp2_with (fail)
    go_ret
    exact ⟨rfl, HB6.out⟩
end Go.Proofs.Ytchjjcmlekknfaa

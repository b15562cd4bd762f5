/- The statement ScreensSound, walked. -/
import Derived.Test.YtchjjcmlekknfaaW18
namespace Go.Proofs.Ytchjjcmlekknfaa
open Go.RowKit
set_option linter.unusedVariables false
set_option linter.unusedSimpArgs false

theorem rightB_zero {r d : List Int} {m f : Int} (h : rightB r d m f = true) : Sc.errQ r d m f = 0 ∧ r.length ≤ 40 := by
  unfold rightB at h; simp at h; exact ⟨h.2, h.1⟩
theorem gL_zero {r d : List Int} {m f : Int} (h : Sc.errQ r d m f = 0) : gL r d m f = Sc.toI (Sc.best (Sc.mkQ r d m f) 0 0).1 := if_pos h
theorem gD_zero {r d : List Int} {m f : Int} (h : Sc.errQ r d m f = 0) : gD r d m f = (Sc.best (Sc.mkQ r d m f) 0 0).2 := if_pos h
theorem pL_zero {r d : List Int} {m f : Int} (h : Sc.errQ r d m f = 0) : pL r d m f = Sc.hs (Sc.mkQ r d m f) r.length := if_pos h
theorem aB_zero {r d es h : List Int} {m f : Int} (h0 : Sc.errQ r d m f = 0) : aB r d m f es h = Sc.accB (Sc.mkQ r d m f) es h := if_pos h0
theorem mkQ_m {r d : List Int} {m f : Int} (h : Sc.errQ r d m f = 0) : ((Sc.mkQ r d m f).m : Int) = m := by have := (Sc.errQ_zero h).2.2.1; show (m.toNat : Int) = m; omega
theorem best_len {r d : List Int} {m f : Int} (h : Sc.errQ r d m f = 0) : (Sc.toI (Sc.best (Sc.mkQ r d m f) 0 0).1).length ≤ 64 := by
  have g := (Sc.best_best (q := Sc.mkQ r d m f) (Sc.ok_of h).m1 0 0 (Nat.zero_le _)).grp
  have h1 := Sc.grp_len g
  have h2 := (Sc.ok_of h).n
  rw [Sc.toI_len]; omega

set_option maxHeartbeats 4000000 in
set_option maxRecDepth 100000 in
theorem ScreensSound_any (v u z y : Value) (r d es h : List Int) (m f : Int) (w : World) (hv : IsInts w v r) (hu : IsInts w u d) (hl : r.length ≤ 9223372036854775807) (hl2 : d.length ≤ 9223372036854775807) (hz : IsInts w z es) (hy : IsInts w y h) (hl3 : es.length ≤ 9223372036854775807) (hl4 : h.length ≤ 9223372036854775807) :
    Calls Try.prog 6 #[v, u, .int .i64 m, .int .i64 f, z, y] w fun e w' => e = .returned (.bool true) ∧ Below w.heap.size w w' := by
  have HV := Lib.hid hv
  have HU := Lib.hid hu
  obtain ⟨A, c, rfl, _⟩ := id hv
  obtain ⟨A2, c2, rfl, _⟩ := id hu
  have HL := Lib.hid (And.intro hl hl2)
  have HZ := Lib.hid hz
  have HY := Lib.hid hy
  obtain ⟨A3, c3, rfl, _⟩ := id hz
  obtain ⟨A4, c4, rfl, _⟩ := id hy
  have HL3 := Lib.hid (And.intro hl3 hl4)
  clear hv hu hz hy
  go_enter Try.func6, Try.ntmps6
  go_wp2_with (fail)
  refine (sane_any _).mono ?_
  rintro e w1 ⟨rfl, b1⟩
  have HB1 := Lib.hid b1
  clear b1
  go_wp2_with (fail)
  cases hr : rightB r d m f
  · refine (right_is (HV.out.upb HB1.out) (HU.out.upb HB1.out) HL.out.1 HL.out.2 hr).mono ?_
    rintro e w2 ⟨rfl, b2⟩
    have HB2 := Lib.hid (HB1.out.up b2)
    clear b2
    go_wp2_with (fail)
    go_ret
    exact ⟨rfl, HB2.out⟩
  refine (right_is (HV.out.upb HB1.out) (HU.out.upb HB1.out) HL.out.1 HL.out.2 hr).mono ?_
  rintro e w2 ⟨rfl, b2⟩
  have HB2 := Lib.hid (HB1.out.up b2)
  clear b2 HB1
  by_cases h5 : 100 < es.length
  · have hd5 : decide ((100 : Int) < (es.length : Int)) = true := by rw [decide_eq_true_eq]; omega
    go_wp2_with (fail)
    go_ret
    exact ⟨rfl, HB2.out⟩
  have hd5 : decide ((100 : Int) < (es.length : Int)) = false := by rw [decide_eq_false_iff_not]; omega
  by_cases h6 : 100 < h.length
  · have hd6 : decide ((100 : Int) < (h.length : Int)) = true := by rw [decide_eq_true_eq]; omega
    go_wp2_with (fail)
    go_ret
    exact ⟨rfl, HB2.out⟩
  have hd6 : decide ((100 : Int) < (h.length : Int)) = false := by rw [decide_eq_false_iff_not]; omega
  obtain ⟨h0, h40⟩ := rightB_zero hr
  have HE := Lib.hid h0
  have HQ := Lib.hid (Sc.ok_of h0)
  have HMM := Lib.hid (mkQ_m h0)
  have HGL := Lib.hid (gL_zero h0)
  have HGD := Lib.hid (gD_zero h0)
  have HPL := Lib.hid (pL_zero h0)
  have HBL := Lib.hid (best_len h0)
  have hhl := Sc.hs_len (Sc.mkQ r d m f) r.length
  have HHL := Lib.hid hhl
  have HOWN := Lib.hid (show aB r d m f (Sc.toI (Sc.best (Sc.mkQ r d m f) 0 0).1) (Sc.hs (Sc.mkQ r d m f) r.length) = true by rw [aB_zero h0]; exact Sc.acc_own (Sc.ok_of h0))
  have HSND := Lib.hid (show aB r d m f es h = true → Sc.grpI m r.length 0 es = true ∧ Sc.doneI (Sc.mkQ r d m f) 0 0 es = (Sc.best (Sc.mkQ r d m f) 0 0).2 from fun ha => by
    rw [aB_zero h0] at ha
    have hh := Sc.acc_sound (Sc.ok_of h0) ha
    rw [mkQ_m h0] at hh
    exact ⟨hh.1, by rw [hh.2, Sc.best_done (Sc.ok_of h0)]⟩)
  clear h0 hr hhl
  obtain ⟨L, hL⟩ : ∃ L, Sc.toI (Sc.best (Sc.mkQ r d m f) 0 0).1 = L := ⟨_, rfl⟩
  obtain ⟨D, hD⟩ : ∃ D, (Sc.best (Sc.mkQ r d m f) 0 0).2 = D := ⟨_, rfl⟩
  obtain ⟨P, hP⟩ : ∃ P, Sc.hs (Sc.mkQ r d m f) r.length = P := ⟨_, rfl⟩
  rw [hL] at HGL HBL HOWN
  rw [hD] at HGD HSND
  rw [hP] at HPL HHL HOWN
  clear hL hD hP
  go_wp2_with (fail)
  refine (grp_call (HV.out.upb HB2.out) (HU.out.upb HB2.out) HL.out.1 HL.out.2 HE.out HGL.out HGD.out).mono ?_
  rintro e w3 ⟨B1, k1, rfl, i1, b3⟩
  have HB3 := Lib.hid (HB2.out.up b3)
  have HI := Lib.hid i1
  clear i1 b3 HB2
  go_wp2_with (fail)
  refine (prv_call (HV.out.upb HB3.out) (HU.out.upb HB3.out) HL.out.1 HL.out.2 HE.out HPL.out).mono ?_
  rintro e w4 ⟨B2, k2, rfl, i2, b4⟩
  have HB4 := Lib.hid (HB3.out.up b4)
  have HI := Lib.hid (HI.out.upb b4)
  have HJ := Lib.hid i2
  clear i2 b4 HB3
  go_wp2_with (fail)
  refine (acc_call (HV.out.upb HB4.out) (HU.out.upb HB4.out) HI.out HJ.out HL.out.1 HL.out.2 (by have := HBL.out; omega) (by have := HHL.out; omega) HE.out HOWN.out).mono ?_
  rintro e w5 ⟨rfl, b5⟩
  have HB5 := Lib.hid (HB4.out.up b5)
  clear b5 HB4
  go_wp2_with (fail)
  cases hb : aB r d m f es h
  · refine (acc_call (HV.out.upb HB5.out) (HU.out.upb HB5.out) (HZ.out.upb HB5.out) (HY.out.upb HB5.out) HL.out.1 HL.out.2 HL3.out.1 HL3.out.2 HE.out hb).mono ?_
    rintro e w6 ⟨rfl, b6⟩
    have HB6 := Lib.hid (HB5.out.up b6)
    clear b6
    go_wp2_with (fail)
    go_ret
    exact ⟨rfl, HB6.out⟩
  refine (acc_call (HV.out.upb HB5.out) (HU.out.upb HB5.out) (HZ.out.upb HB5.out) (HY.out.upb HB5.out) HL.out.1 HL.out.2 HL3.out.1 HL3.out.2 HE.out hb).mono ?_
  rintro e w6 ⟨rfl, b6⟩
  have HB6 := Lib.hid (HB5.out.up b6)
  obtain ⟨hs1, hs2⟩ := HSND.out hb
  obtain ⟨k, hk, hg⟩ := Sc.grpI_nat (m := (Sc.mkQ r d m f).m) (n := r.length) (i := 0) (l := es) (by rw [HMM.out]; exact hs1)
  have HG := Lib.hid hg
  have HK := Lib.hid hk
  have HS1 := Lib.hid hs1
  have HDN := Lib.hid (show Sc.doneAt (Sc.mkQ r d m f) 0 0 k = D from by
    rw [← hs2, hk]; exact (Sc.doneI_map (Sc.mkQ r d m f) 0 0 k).symm)
  clear b6 hb hs1 hs2 hk hg HB5
  go_wp2_with (fail)
  refine (grouping_is HS1.out (HZ.out.upb HB6.out) HL3.out.1 (by omega) (by omega)).mono ?_
  rintro e _ ⟨rfl, rfl⟩
  go_wp2_with (fail)
  refine (done_any _ _ _ (Sc.mkQ r d m f) k w6 (HV.out.upb HB6.out) (HU.out.upb HB6.out) (by rw [← HK.out]; exact HZ.out.upb HB6.out) HQ.out HG.out).mono ?_
  rintro e _ ⟨rfl, rfl⟩
  rw [HDN.out]
  go_wp2_with (fail)
  go_ret
  exact ⟨rfl, HB6.out⟩
end Go.Proofs.Ytchjjcmlekknfaa

/- The statement ScreensEarly, walked. -/
import Derived.Test.YtchjjcmlekknfaaL2
import Derived.Test.YtchjjcmlekknfaaW19
namespace Go.Proofs.Ytchjjcmlekknfaa
open Go.RowKit
set_option linter.unusedVariables false
set_option linter.unusedSimpArgs false

theorem before_is {v u : Value} {xs ys : List Int} {b : Bool} {w : World} (h : lexL xs ys = b) (hv : IsInts w v xs) (hu : IsInts w u ys) (hl : xs.length ≤ 9223372036854775807) (hl2 : ys.length ≤ 9223372036854775807) :
    Calls Try.prog 22 #[v, u] w fun e w' => e = .returned (.bool b) ∧ ∃ k, w' = w.drewN k := by subst h; exact before_any v u xs ys w hv hu hl hl2

set_option maxHeartbeats 4000000 in
set_option maxRecDepth 100000 in
theorem ScreensEarly_any (v u z : Value) (r d ps : List Int) (m f : Int) (w : World) (hv : IsInts w v r) (hu : IsInts w u d) (hl : r.length ≤ 9223372036854775807) (hl2 : d.length ≤ 9223372036854775807) (hz : IsU8 w z ps) (hl3 : ps.length ≤ 9223372036854775807) (hb : ∀ y ∈ ps, 0 ≤ y ∧ y ≤ 255) :
    Calls Try.prog 5 #[v, u, .int .i64 m, .int .i64 f, z] w fun e w' => e = .returned (.bool true) ∧ Below w.heap.size w w' := by
  have HV := Lib.hid hv
  have HU := Lib.hid hu
  obtain ⟨A, c, rfl, _⟩ := id hv
  obtain ⟨A2, c2, rfl, _⟩ := id hu
  have HL := Lib.hid (And.intro hl hl2)
  have HZ := Lib.hid hz
  obtain ⟨A3, c3, rfl, _⟩ := id hz
  have HL3 := Lib.hid hl3
  have HBP := Lib.hid hb
  clear hv hu hz hb
  go_enter Try.func5, Try.ntmps5
  go_wp2_with (fail)
  refine (sane_any _).mono ?_
  rintro e w1 ⟨rfl, b1⟩
  have HB1 := Lib.hid b1
  clear b1
  go_wp2_with (fail)
  cases hr : rightB r d m f
  · refine (right_is (HV.out.upb HB1.out) (HU.out.upb HB1.out) HL.out.1 HL.out.2 hr).mono ?_
    rintro e w2 ⟨rfl, b2⟩
    have HB2 := Lib.hid (HB1.out.up b2)
    clear b2
    go_wp2_with (fail)
    go_ret
    exact ⟨rfl, HB2.out⟩
  refine (right_is (HV.out.upb HB1.out) (HU.out.upb HB1.out) HL.out.1 HL.out.2 hr).mono ?_
  rintro e w2 ⟨rfl, b2⟩
  have HB2 := Lib.hid (HB1.out.up b2)
  clear b2 HB1
  obtain ⟨h0, h40⟩ := rightB_zero hr
  have HE := Lib.hid h0
  have HQ := Lib.hid (Sc.ok_of h0)
  have HMM := Lib.hid (mkQ_m h0)
  have HGL := Lib.hid (gL_zero h0)
  have HGD := Lib.hid (gD_zero h0)
  have HBL := Lib.hid (best_len h0)
  have HM8 := Lib.hid (show 1 ≤ m ∧ m ≤ 8 from ⟨(Sc.errQ_zero h0).2.2.1, (Sc.errQ_zero h0).2.2.2.1⟩)
  have hbb := Sc.best_best (q := Sc.mkQ r d m f) (Sc.ok_of h0).m1 0 0 (Nat.zero_le _)
  obtain ⟨L, hL⟩ : ∃ L, (Sc.best (Sc.mkQ r d m f) 0 0).1 = L := ⟨_, rfl⟩
  obtain ⟨D, hD⟩ : ∃ D, (Sc.best (Sc.mkQ r d m f) 0 0).2 = D := ⟨_, rfl⟩
  rw [hL] at HGL HBL
  rw [hD] at HGD
  have HG := Lib.hid (show Sc.Grp (Sc.mkQ r d m f).m r.length 0 L by rw [← hL]; exact hbb.grp)
  have HDN := Lib.hid (show Sc.doneAt (Sc.mkQ r d m f) 0 0 L = D by rw [← hL, ← hD]; exact hbb.done)
  have HLST := Lib.hid (show ∀ k, Sc.Grp (Sc.mkQ r d m f).m r.length 0 k → D ≤ Sc.doneAt (Sc.mkQ r d m f) 0 0 k from fun k hk => by rw [← hD]; exact hbb.least k hk)
  have HFST := Lib.hid (show ∀ k, Sc.Grp (Sc.mkQ r d m f).m r.length 0 k → Sc.doneAt (Sc.mkQ r d m f) 0 0 k = D → Sc.bef k L = false from fun k hk hd => by rw [← hL]; exact hbb.first k hk (by rw [hd, hD]))
  have HGI := Lib.hid (show Sc.grpI m r.length 0 (Sc.toI L) = true by have := Sc.grpI_of HG.out; rw [HMM.out] at this; exact this)
  clear h0 hr hL hD hbb
  go_wp2_with (fail)
  refine (grp_call (HV.out.upb HB2.out) (HU.out.upb HB2.out) HL.out.1 HL.out.2 HE.out HGL.out HGD.out).mono ?_
  rintro e w3 ⟨B1, k1, rfl, i1, b3⟩
  have HB3 := Lib.hid (HB2.out.up b3)
  have HI := Lib.hid i1
  clear i1 b3 HB2
  go_wp2_with (fail)
  refine (grouping_is HGI.out HI.out (by have := HBL.out; omega) (by omega) (by omega)).mono ?_
  rintro e _ ⟨rfl, rfl⟩
  go_wp2_with (fail)
  refine (done_any _ _ _ (Sc.mkQ r d m f) L w3 (HV.out.upb HB3.out) (HU.out.upb HB3.out) HI.out HQ.out HG.out).mono ?_
  rintro e _ ⟨rfl, rfl⟩
  rw [HDN.out]
  go_wp2_with (fail)
  refine (show Calls Try.prog 21 #[.int .i64 (r.length : Int), .int .i64 m, .slice A3 ps.length c3] w3 _ by
    rw [← HMM.out]; exact (group_picks r.length (Sc.mkQ r d m f).m _ ps w3 (HZ.out.upb HB3.out) HBP.out HL3.out (by omega) HQ.out.m1 HQ.out.m8)).mono ?_
  rintro e w4 ⟨k, v4, rfl, i4, g4, b4⟩
  have HB4 := Lib.hid (HB3.out.up b4)
  have HI4 := Lib.hid (HI.out.upb b4)
  have HJ := Lib.hid i4
  have HG4 := Lib.hid g4
  have HKL := Lib.hid (Sc.grp_len g4)
  obtain ⟨A4, c4, rfl, _⟩ := id i4
  clear i4 g4 b4 HB3 HI
  go_wp2_with (fail)
  refine (done_any _ _ _ (Sc.mkQ r d m f) k w4 (HV.out.upb HB4.out) (HU.out.upb HB4.out) HJ.out HQ.out HG4.out).mono ?_
  rintro e _ ⟨rfl, rfl⟩
  have hle := HLST.out k HG4.out
  have HBF := Lib.hid (show Sc.doneAt (Sc.mkQ r d m f) 0 0 k = D → lexL (Sc.toI k) (Sc.toI L) = false from fun hd => by rw [Sc.lexL_toI]; exact HFST.out k HG4.out hd)
  generalize Sc.doneAt (Sc.mkQ r d m f) 0 0 k = T at *
  rcases Int.lt_or_le D T with hlt | hge
  · have hdl : decide (D < T) = true := by simpa using hlt
    go_wp2_with (fail)
    go_ret
    exact ⟨rfl, HB4.out⟩
  have hTD : T = D := by omega
  subst hTD
  have hdl : decide (T < T) = false := by simp
  have HBF2 := Lib.hid (HBF.out rfl)
  clear HBF
  go_wp2_with (fail)
  refine (before_is HBF2.out HJ.out HI4.out (by rw [Sc.toI_len]; have := HKL.out; omega) (by have := HBL.out; omega)).mono ?_
  rintro e _ ⟨rfl, k9, rfl⟩
  go_wp2_with (fail)
  go_ret
  exact ⟨rfl, below_drewN HB4.out _⟩
end Go.Proofs.Ytchjjcmlekknfaa

/- The statement ScreensFirst, walked. -/
import Derived.Test.YtchjjcmlekknfaaL2
namespace Go.Proofs.Ytchjjcmlekknfaa
open Go.RowKit
set_option linter.unusedVariables false
set_option linter.unusedSimpArgs false

namespace Sc
theorem ok.H_ge {q : Qs} (h : ok q) {j : Nat} (hj0 : 0 < j) (hj : j ≤ q.r.length) : at_ q.r (j - 1) + at_ q.d (j - 1) ≤ H q j := by
  obtain ⟨i, hi, e⟩ := (h.H_le hj).2.2.2.2 hj0
  have hi2 := (mem_ins.1 hi).2
  have h1 := h.sum_mono (i := i) (j := j - 1) (by omega) (by omega)
  have h2 := sumN_succ q.d (j - 1) (by have := h.len; omega)
  rw [show j - 1 + 1 = j by omega] at h2
  rw [e]
  unfold scr
  split <;> omega
end Sc
theorem grp_first {r d : List Int} {m f : Int} (h : Sc.errQ r d m f = 0) {k : Nat} (hk : k ≤ r.length) {v u : Value} {w : World} (hv : IsInts w v (r.take k)) (hu : IsInts w u (d.take k)) :
    Calls Try.prog 11 #[v, u, .int .i64 m, .int .i64 f] w fun e w' => ∃ v', e = .returned (.tuple #[v', .int .i64 (Sc.H (Sc.mkQ r d m f) k), .int .i64 0]) ∧ Below w.heap.size w w' := by
  have h1 := Sc.errQ_take k h
  have h2 := (Sc.errQ_zero h).1
  have h3 := (Sc.errQ_zero h).2.1
  refine (grp_call hv hu (by rw [List.length_take]; omega) (by rw [List.length_take]; omega) h1 rfl (gD_zero h1)).mono ?_
  rintro e w' ⟨A, c, rfl, _, hb⟩
  exact ⟨_, by rw [bestTake h hk], hb⟩
theorem at_H {q : Sc.Qs} {P : List Int} {n k : Nat} (h : Sc.hs q n = P) (hk : k ≤ n) : Sc.at_ P k = Sc.H q k := by rw [← h, Sc.hs_at q hk]

set_option maxHeartbeats 4000000 in
set_option maxRecDepth 100000 in
theorem ScreensFirst_any (v u : Value) (r d : List Int) (m f : Int) (w : World) (hv : IsInts w v r) (hu : IsInts w u d) (hl : r.length ≤ 9223372036854775807) (hl2 : d.length ≤ 9223372036854775807) (hc1 : ∀ A n c, v = .slice A n c → n ≤ c) (hc2 : ∀ A n c, u = .slice A n c → n ≤ c) :
    Calls Try.prog 8 #[v, u, .int .i64 m, .int .i64 f] w fun e w' => e = .returned (.bool true) ∧ Below w.heap.size w w' := by
  have HV := Lib.hid hv
  have HU := Lib.hid hu
  obtain ⟨A, c, rfl, _⟩ := id hv
  obtain ⟨A2, c2, rfl, _⟩ := id hu
  have hcc := hc1 _ _ _ rfl
  have hcc2 := hc2 _ _ _ rfl
  have HL := Lib.hid (And.intro hl hl2)
  clear hv hu hc1 hc2
  go_enter Try.func8, Try.ntmps8
  go_wp2_with (fail)
  refine (sane_any _).mono ?_
  rintro e w1 ⟨rfl, b1⟩
  have HB1 := Lib.hid b1
  clear b1
  go_wp2_with (fail)
  cases hr : rightB r d m f
  · refine (right_is (HV.out.upb HB1.out) (HU.out.upb HB1.out) HL.out.1 HL.out.2 hr).mono ?_
    rintro e w2 ⟨rfl, b2⟩
    have HB2 := Lib.hid (HB1.out.up b2)
    clear b2
    go_wp2_with (fail)
    go_ret
    exact ⟨rfl, HB2.out⟩
  refine (right_is (HV.out.upb HB1.out) (HU.out.upb HB1.out) HL.out.1 HL.out.2 hr).mono ?_
  rintro e w2 ⟨rfl, b2⟩
  have HB2 := Lib.hid (HB1.out.up b2)
  clear b2 HB1
  obtain ⟨h0, h40⟩ := rightB_zero hr
  have HE := Lib.hid h0
  have HPL := Lib.hid (pL_zero h0)
  have HDL := Lib.hid (show d.length = r.length from (Sc.ok_of h0).len)
  have hpl := Sc.hs_len (Sc.mkQ r d m f) r.length
  have HPN := Lib.hid hpl
  clear h0 hr hpl
  obtain ⟨P, hP⟩ : ∃ P, Sc.hs (Sc.mkQ r d m f) r.length = P := ⟨_, rfl⟩
  have HPE := Lib.hid hP
  rw [hP] at HPL HPN
  clear hP
  go_wp2_with (fail)
  refine (prv_call (HV.out.upb HB2.out) (HU.out.upb HB2.out) HL.out.1 HL.out.2 HE.out HPL.out).mono ?_
  rintro e w3 ⟨B1, k1, rfl, i1, b3⟩
  have HB3 := Lib.hid (HB2.out.up b3)
  have HJ := Lib.hid i1
  have hp0 : P.length = r.length + 1 := HPN.out
  have hpw : IntKind.i64.wrap ((r.length : Int) + 1) = (P.length : Int) := by rw [IntKind.wrap_i64]; omega
  have hpw2 : (r.length : Int) + 1 = (P.length : Int) := by omega
  have hp65 : P.length ≤ 41 := by omega
  obtain ⟨b9, off9, rfl, hb9, hc9⟩ := at_cell i1.row (k := 0) (by omega)
  clear i1 b3 HB2 hb9 hc9 hp0

  go_wp2_with (fail)
  go_loopw [44] (fun i wr => ∃ k : Nat, k ≤ P.length ∧ i = .int .i64 k ∧ Hid (Below w3.heap.size w3 wr)) (fun i _ => P.length - (intOf i).toNat)
  case atStart => exact ⟨0, Nat.zero_le _, rfl, Lib.hid (Below.refl _ _)⟩
  case round =>
    obtain ⟨k, hk, rfl, HB⟩ := hrel
    by_cases hlt : k < P.length
    · have dk : decide ((k : Int) < (P.length : Int)) = true := by rw [decide_eq_true_eq]; omega
      obtain ⟨b, off, e, hbb, hc⟩ := at_cell (HJ.out.upb HB.out).row (k := k) hlt
      injection e with e
      injection e with e1 e2
      subst e1 e2
      rw [at_H HPE.out (show k ≤ r.length by have := HPN.out; omega)] at hc
      have hkr : k ≤ r.length := by have := HPN.out; omega
      have hkc : (k : Int) ≤ (c : Int) := by omega
      have hkd : k ≤ d.length := by have := HDL.out; omega
      have hkc2 : (k : Int) ≤ (c2 : Int) := by omega
      rcases Nat.eq_zero_or_pos k with rfl | hk0
      · rw [Nat.add_zero] at hc
        go_wp2_with (fail)
        have HBd := Lib.hid (show Below w3.heap.size w3 wr.drew from below_drewN HB.out 1)
        go_region_held3 (fun X => True)
          (first | exact trivial)
          (first
            | (go_at_call 11
               refine (grp_first (r := r) (d := d) HE.out (k := 0) (Nat.zero_le _) (nil_ints (by simp)) (nil_ints (by simp))).mono ?_
               rintro e w5 ⟨v5, rfl, b5⟩
               have HB5 := Lib.hid (HBd.out.up b5)
               clear b5))
        all_goals
          go_wp2_with (fail)
          go_quiet (fail)
          go_wp2_with (fail)
          go_roundw
          case rel => exact ⟨0 + 1, by omega, by rfl, Lib.hid (below_drewN HB5.out _)⟩
          case measure => first | omega | (simp [intOf]; done) | (simp [intOf]; omega)
      · obtain ⟨ba, offa, hAe, _⟩ := at_cell HV.out.row (k := 0) (by omega)
        obtain ⟨bd, offd, hAe2, _⟩ := at_cell HU.out.row (k := 0) (by omega)
        subst hAe hAe2
        have hcn : ¬ c = 0 := by omega
        have hcn2 : ¬ c2 = 0 := by omega
        go_wp2_with (fail)
        have HBd := Lib.hid (show Below w3.heap.size w3 wr.drew from below_drewN HB.out 1)
        go_region_held3 (fun X => True)
          (first | exact trivial)
          (first
            | (go_at_call 11
               refine (grp_first (r := r) (d := d) HE.out (k := k) hkr (ints_take ((HV.out.upb HB3.out).upb HBd.out) k _ k (by rw [List.length_take]; omega)) (ints_take ((HU.out.upb HB3.out).upb HBd.out) k _ k (by rw [List.length_take]; omega))).mono ?_
               rintro e w5 ⟨v5, rfl, b5⟩
               have HB5 := Lib.hid (HBd.out.up b5)
               clear b5))
        all_goals
          go_wp2_with (fail)
          obtain ⟨br, or, er, hbr, hcr⟩ := at_cell ((HV.out.upb HB3.out).upb HB5.out).row (k := k - 1) (by omega)
          obtain ⟨bd', od, ed, hbd, hcd⟩ := at_cell ((HU.out.upb HB3.out).upb HB5.out).row (k := k - 1) (by omega)
          injection er with er
          injection er with er1 er2
          subst er1 er2
          injection ed with ed
          injection ed with ed1 ed2
          subst ed1 ed2
          have hge := (Sc.ok_of HE.out).H_ge hk0 (show k ≤ (Sc.mkQ r d m f).r.length from hkr)
          have hx := (Sc.ok_of HE.out).r0 (k - 1) (show k - 1 < (Sc.mkQ r d m f).r.length by show k - 1 < r.length; omega)
          have hy := (Sc.ok_of HE.out).d0 (k - 1) (show k - 1 < (Sc.mkQ r d m f).r.length by show k - 1 < r.length; omega)
          rw [show (Sc.mkQ r d m f).r = r from rfl] at hge hx
          rw [show (Sc.mkQ r d m f).d = d from rfl] at hge hy
          generalize Sc.H (Sc.mkQ r d m f) k = t at *
          generalize Sc.at_ r (k - 1) = x at *
          generalize Sc.at_ d (k - 1) = y at *
          have hkm : ((k : Int) - 1).toNat = k - 1 := by omega
          have hkm0 : (0 : Int) ≤ (k : Int) - 1 := by omega
          have hkm1 : (k : Int) - 1 < (r.length : Int) := by omega
          have hkm2 : (k : Int) - 1 < (d.length : Int) := by omega
          have hkw : IntKind.i64.wrap ((k : Int) - 1) = (k : Int) - 1 := by rw [IntKind.wrap_i64]; omega
          have hk0i : (0 : Int) < (k : Int) := by omega
          have hk0d : decide ((0 : Int) < (k : Int)) = true := by rw [decide_eq_true_eq]; omega
          have hsw : IntKind.i64.wrap (x + y) = x + y := by rw [IntKind.wrap_i64]; omega
          have hnt : ¬ t < x + y := by omega
          have hntd : decide (t < x + y) = false := by rw [decide_eq_false_iff_not]; omega
          go_quiet (fail)
          go_wp2_with (fail)
          go_roundw
          case rel => exact ⟨k + 1, by omega, by go_num, Lib.hid (below_drewN HB5.out _)⟩
          case measure => first | omega | (simp [intOf]; done) | (simp [intOf]; omega)
    · have dk : decide ((k : Int) < (P.length : Int)) = false := by rw [decide_eq_false_iff_not]; omega
      go_wp2_with (fail)
      go_ret
      exact ⟨rfl, HB3.out.up HB.out⟩
end Go.Proofs.Ytchjjcmlekknfaa

/- The statements BreaksSpec and BreaksProveSpec, walked. -/
import Derived.Test.YtdcndhfjfllehaaPlain4
namespace Go.Proofs.Ytdcndhfjfllehaa
open Go.RowKit
set_option linter.unusedVariables false
set_option linter.unusedSimpArgs false

theorem esL_len (xs : List Int) (sp rm : Int) : (esL xs sp rm).length ≤ xs.length := by
  unfold esL
  split
  · rename_i h
    unfold okB at h
    simp only [Bool.and_eq_true, decide_eq_true_eq, Bool.not_eq_true'] at h
    unfold endsI
    rw [List.length_map]
    exact ends_len _ _ _ (Nat.le_refl _) ((Bk.err_rt h.1).ok h.2)
  · simp
theorem hsL_len (xs : List Int) (sp rm : Int) : (hsL xs sp rm).length ≤ xs.length + 1 := by
  unfold hsL
  split
  · rw [Bk.tab_len]; exact Nat.le_refl _
  · simp
theorem okB_parts {xs : List Int} {sp rm : Int} (h : okB xs sp rm = true) : Bk.err xs sp rm = 0 ∧ Bk.Rt xs sp rm ∧ Bk.ok sp rm xs ∧ Bk.wide xs rm = false := by
  unfold okB at h
  simp only [Bool.and_eq_true, decide_eq_true_eq, Bool.not_eq_true'] at h
  exact ⟨h.1, Bk.err_rt h.1, (Bk.err_rt h.1).ok h.2, h.2⟩
theorem hsL_64 (xs : List Int) (sp rm : Int) : (hsL xs sp rm).length ≤ 65 := by
  by_cases h : okB xs sp rm = true
  · have h1 := hsL_len xs sp rm
    have h2 := (okB_parts h).2.1.len
    omega
  · unfold hsL; rw [if_neg h]; simp
theorem esL_64 (xs : List Int) (sp rm : Int) : (esL xs sp rm).length ≤ 64 := by
  by_cases h : okB xs sp rm = true
  · have h1 := esL_len xs sp rm
    have h2 := (okB_parts h).2.1.len
    omega
  · unfold esL; rw [if_neg h]; simp

set_option maxHeartbeats 4000000 in
set_option maxRecDepth 100000 in
theorem BreaksSpec_any (v : Value) (xs : List Int) (sp rm : Int) (w : World) (hv : IsInts w v xs) (lhv : xs.length ≤ 9223372036854775807) :
    Calls Try.prog 3 #[v, .int .i64 sp, .int .i64 rm] w fun e w' => e = .returned (.bool true) ∧ Below w.heap.size w w' := by
  have Hhv := Lib.hid hv
  obtain ⟨A, c, rfl, _⟩ := id hv
  clear hv
  have B := Lib.hid (Below.refl w.heap.size w)
  go_enter Try.func3, Try.ntmps3
  go_wp2_with (fail)
  refine (sane_any _).mono ?_
  rintro e w1 ⟨rfl, b1⟩
  have Dw1 := Lib.hid (b1)
  replace Hhv := Lib.hid (Hhv.out.upb Dw1.out)
  replace B := Lib.hid (B.out.upb Dw1.out)
  clear Dw1 b1
  go_wp2_with (fail)
  refine (break_any xs _ _ sp rm _ Hhv.out lhv).mono ?_
  rintro e w2 ⟨A2, c2, rfl, h2, X2⟩
  have H2 := Lib.hid h2
  have Dw2 := Lib.hid (X2)
  replace Hhv := Lib.hid (Hhv.out.upb Dw2.out)
  replace B := Lib.hid (B.out.upb Dw2.out)
  clear Dw2 h2 X2
  go_wp2_with (fail)
  refine (refBreak_any _ xs sp rm _ Hhv.out lhv).mono ?_
  rintro e w3 ⟨A3, c3, rfl, h3, X3⟩
  have H3 := Lib.hid h3
  have Dw3 := Lib.hid (X3)
  replace Hhv := Lib.hid (Hhv.out.upb Dw3.out)
  replace B := Lib.hid (B.out.upb Dw3.out)
  replace H2 := Lib.hid (H2.out.upb Dw3.out)
  clear Dw3 h3 X3
  go_wp2_with (fail)
  have hl2 := esL_64 xs sp rm
  refine (sameInts_any _ _ (esL xs sp rm) (esL xs sp rm) _ H2.out H3.out (by omega) (by omega)).mono ?_
  rintro e w4 ⟨rfl, m4, h4⟩
  rw [show decide ((esL xs sp rm) = (esL xs sp rm)) = true by simp]
  have X4 : Hid (Below w3.heap.size w3 w4) := by rw [h4]; exact below_drewN (Below.refl _ _) m4
  have Dw4 := Lib.hid (X4.out)
  replace Hhv := Lib.hid (Hhv.out.upb Dw4.out)
  replace B := Lib.hid (B.out.upb Dw4.out)
  replace H2 := Lib.hid (H2.out.upb Dw4.out)
  replace H3 := Lib.hid (H3.out.upb Dw4.out)
  clear Dw4 h4 X4
  go_wp2_with (fail)
  go_ret
  exact ⟨rfl, B.out⟩

set_option maxHeartbeats 4000000 in
set_option maxRecDepth 100000 in
theorem BreaksProveSpec_any (v u t : Value) (xs es h : List Int) (sp rm : Int) (w : World) (hv : IsInts w v xs) (lhv : xs.length ≤ 9223372036854775807) (hu : IsInts w u es) (lhu : es.length ≤ 9223372036854775807) (ht : IsInts w t h) (lht : h.length ≤ 9223372036854775807) :
    Calls Try.prog 4 #[v, .int .i64 sp, .int .i64 rm, u, t] w fun e w' => e = .returned (.bool true) ∧ Below w.heap.size w w' := by
  have Hhv := Lib.hid hv
  obtain ⟨A, c, rfl, _⟩ := id hv
  clear hv
  have Hhu := Lib.hid hu
  obtain ⟨A2, c2, rfl, _⟩ := id hu
  clear hu
  have Hht := Lib.hid ht
  obtain ⟨A3, c3, rfl, _⟩ := id ht
  clear ht
  have B := Lib.hid (Below.refl w.heap.size w)
  go_enter Try.func4, Try.ntmps4
  go_wp2_with (fail)
  refine (sane_any _).mono ?_
  rintro e w1 ⟨rfl, b1⟩
  have Dw1 := Lib.hid (b1)
  replace Hhv := Lib.hid (Hhv.out.upb Dw1.out)
  replace Hhu := Lib.hid (Hhu.out.upb Dw1.out)
  replace Hht := Lib.hid (Hht.out.upb Dw1.out)
  replace B := Lib.hid (B.out.upb Dw1.out)
  clear Dw1 b1
  go_wp2_with (fail)
  refine (prove_any xs _ _ sp rm _ Hhv.out lhv).mono ?_
  rintro e w2 ⟨A2, c2, rfl, h2, X2⟩
  have H2 := Lib.hid h2
  have Dw2 := Lib.hid (X2)
  replace Hhv := Lib.hid (Hhv.out.upb Dw2.out)
  replace Hhu := Lib.hid (Hhu.out.upb Dw2.out)
  replace Hht := Lib.hid (Hht.out.upb Dw2.out)
  replace B := Lib.hid (B.out.upb Dw2.out)
  clear Dw2 h2 X2
  go_wp2_with (fail)
  refine (refProve_any _ xs sp rm _ Hhv.out lhv).mono ?_
  rintro e w3 ⟨A3, c3, rfl, h3, X3⟩
  have H3 := Lib.hid h3
  have Dw3 := Lib.hid (X3)
  replace Hhv := Lib.hid (Hhv.out.upb Dw3.out)
  replace Hhu := Lib.hid (Hhu.out.upb Dw3.out)
  replace Hht := Lib.hid (Hht.out.upb Dw3.out)
  replace B := Lib.hid (B.out.upb Dw3.out)
  replace H2 := Lib.hid (H2.out.upb Dw3.out)
  clear Dw3 h3 X3
  go_wp2_with (fail)
  refine (accepts_any xs es h _ _ _ _ _ _ sp rm _ Hhv.out Hhu.out Hht.out lhv lhu lht).mono ?_
  rintro e w4 ⟨y4, rfl, hy4, X4⟩
  have HY4 := Lib.hid hy4
  have Dw4 := Lib.hid (X4)
  replace Hhv := Lib.hid (Hhv.out.upb Dw4.out)
  replace Hhu := Lib.hid (Hhu.out.upb Dw4.out)
  replace Hht := Lib.hid (Hht.out.upb Dw4.out)
  replace B := Lib.hid (B.out.upb Dw4.out)
  replace H2 := Lib.hid (H2.out.upb Dw4.out)
  replace H3 := Lib.hid (H3.out.upb Dw4.out)
  clear Dw4 hy4 X4
  go_wp2_with (fail)
  refine (refAccepts_any _ _ _ xs es h sp rm _ Hhv.out Hhu.out Hht.out lhv lhu lht).mono ?_
  rintro e w5 ⟨y5, rfl, hy5, q5, hq5⟩
  have HY5 := Lib.hid hy5
  have X5 : Hid (Below w4.heap.size w4 w5) := by rw [hq5]; exact below_drewN (Below.refl _ _) q5
  have Dw5 := Lib.hid (X5.out)
  replace Hhv := Lib.hid (Hhv.out.upb Dw5.out)
  replace Hhu := Lib.hid (Hhu.out.upb Dw5.out)
  replace Hht := Lib.hid (Hht.out.upb Dw5.out)
  replace B := Lib.hid (B.out.upb Dw5.out)
  replace H2 := Lib.hid (H2.out.upb Dw5.out)
  replace H3 := Lib.hid (H3.out.upb Dw5.out)
  clear Dw5 hy5 hq5 X5
  obtain rfl : y4 = y5 := Bool.eq_iff_iff.2 (HY4.out.trans HY5.out.symm)
  clear HY4 HY5
  go_wp2_with (fail)
  have hl2 := hsL_64 xs sp rm
  refine (sameInts_any _ _ (hsL xs sp rm) (hsL xs sp rm) _ H2.out H3.out (by omega) (by omega)).mono ?_
  rintro e w6 ⟨rfl, m6, h6⟩
  rw [show decide ((hsL xs sp rm) = (hsL xs sp rm)) = true by simp]
  have X6 : Hid (Below w5.heap.size w5 w6) := by rw [h6]; exact below_drewN (Below.refl _ _) m6
  have Dw6 := Lib.hid (X6.out)
  replace Hhv := Lib.hid (Hhv.out.upb Dw6.out)
  replace Hhu := Lib.hid (Hhu.out.upb Dw6.out)
  replace Hht := Lib.hid (Hht.out.upb Dw6.out)
  replace B := Lib.hid (B.out.upb Dw6.out)
  replace H2 := Lib.hid (H2.out.upb Dw6.out)
  replace H3 := Lib.hid (H3.out.upb Dw6.out)
  clear Dw6 h6 X6
  go_wp2_with (fail)
  go_ret
  exact ⟨rfl, B.out⟩

end Go.Proofs.Ytdcndhfjfllehaa

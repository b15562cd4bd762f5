/- Walk of the reference's InTime. -/
import Derived.Test.YtofllhbcediafaaW13
namespace Go.Proofs.Ytofllhbcediafaa
open Go.RowKit
set_option linter.unusedVariables false

theorem born_nonneg {x : List Pl.Life} {d : Int} (h : Pl.wordOk x d = true) : 0 ≤ Pl.born x := by
  cases x with
  | nil => simp [Pl.wordOk] at h
  | cons y r => simp [Pl.wordOk, Pl.chain, Pl.born] at h ⊢; omega
theorem tOk_zero {b d t : Int} (hb : 0 ≤ b) : Pl.tOk 0 b d t = (decide (b ≤ t) && decide (t ≤ d)) := by
  unfold Pl.tOk; congr 1; rw [decide_eq_decide]; omega
theorem tOk_some (q b d t : Int) : Pl.tOk q b d t = (decide (b ≤ t) && decide (t ≤ d) && decide (q ≤ t)) := by
  unfold Pl.tOk
  by_cases h1 : b ≤ t <;> by_cases h2 : t ≤ d <;> by_cases h3 : q ≤ t <;> simp [h1, h2, h3] <;> omega
theorem lastS_prev (s : List Int) (k : Nat) (h : k < s.length) (h0 : 0 < k) : Pl.lastS 0 (s.take k) = s[k - 1] := by
  have := Pl.lastS_take 0 s (k - 1) (by omega)
  rwa [show k - 1 + 1 = k by omega] at this

set_option maxHeartbeats 1000000 in
theorem refInTime_any (v u x : Value) (l : List (List Pl.Life)) (ds s : List Int) (w : World) (hv : IsWords w v l) (hu : IsInts w u ds) (hx : IsInts w x s) (hR : Right l ds) (hl : s.length ≤ 9223372036854775807) :
    Calls Try.prog 27 #[v, u, x] w fun e w' => e = .returned (.bool (Pl.inTime l ds s)) ∧ ∃ m, w' = w.drewN m := by
  have HRt := Lib.hid hR
  have hfew := hR.few
  obtain ⟨A, cap, vs, rfl, hlen, hr, hvs⟩ := hv
  obtain ⟨A2, cap2, rfl, hr2⟩ := hu
  obtain ⟨A3, cap3, rfl, hr3⟩ := hx
  have HLEN := Lib.hid hlen
  have HR := Lib.hid hr
  have HVS := Lib.hid hvs
  have HR2 := Lib.hid hr2
  have HR3 := Lib.hid hr3
  clear hr hvs hlen hr2 hr3 hR
  by_cases hne : s.length = l.length
  rotate_left
  · have HF := Lib.hid (show Pl.inTime l ds s = false by simp [Pl.inTime, hne])
    have hnb : ((s.length : Int) != (l.length : Int)) = true := by simp; omega
    go_enter Try.func27, Try.ntmps27
    go_wp2
    go_ret
    exact ⟨ret_bool HF.out.symm, 0, rfl⟩
  have hnb : ((s.length : Int) != (l.length : Int)) = false := by simp [hne]
  have h1 : s.length ≤ l.length := by omega
  have h2 : l.length ≤ s.length := by omega
  have HN := Lib.hid hne
  clear hne
  go_enter Try.func27, Try.ntmps27
  go_wp2
  go_loopw [7] (fun i wr => ∃ k m : Nat, k ≤ l.length ∧ i = .int .i64 k ∧ Hid (Pl.inT 0 l ds (s.take k) = true) ∧ wr = w.drewN m) (fun i _ => l.length - (intOf i).toNat)
  case atStart => exact ⟨0, 0, Nat.zero_le _, rfl, rfl, rfl⟩
  case round =>
    obtain ⟨k, m, hk, rfl, H, rfl⟩ := hrel
    by_cases hlt : k < l.length
    · have k1 : k < s.length := by omega
      have k3 : k < ds.length := by have := HRt.out.len; omega
      have hx0 := HRt.out.some_ k hlt
      have HT := Lib.hid (Pl.inT_take 0 l ds s k k1 hlt k3)
      have HNo := Lib.hid (Pl.inT_no 0 l ds s k k1 hlt k3)
      have HB := Lib.hid (born_nonneg (HRt.out.word k hlt k3))
      obtain ⟨b, off, A4, c4, rfl, _, hc, hr4⟩ := words_at HLEN.out HR.out HVS.out hlt
      obtain ⟨b2, off2, rfl, _, hc2⟩ := ints_at HR2.out k3
      obtain ⟨b3, off3, rfl, _, hc3⟩ := ints_at HR3.out k1
      obtain ⟨b4, off4, rfl, _, hc4, hc4b⟩ := lives_at hr4 hx0
      simp only [Nat.zero_mul, Nat.add_zero] at hc4
      rw [← Pl.born_eq l[k] hx0] at hc4
      have hx0n : 0 < l[k].length := hx0
      clear hc4b hr4
      clear hx0
      generalize Pl.born l[k] = bo at *
      generalize l[k].length = xl at *
      by_cases g1 : s[k] < bo
      · have HF := Lib.hid (HNo.out (by rw [tOk_some]; simp [show ¬ bo ≤ s[k] by omega]))
        clear HNo HT HB
        generalize s[k] = t at *
        generalize ds[k] = d at *
        have d1 : decide (t < bo) = true := by simp [g1]
        go_wp2_with (fail)
        go_quiet (fail)
        go_wp2
        go_ret
        exact ⟨ret_bool (by simp [Pl.inTime, HF.out]), drewN_two _ _ _⟩
      by_cases g2 : ds[k] < s[k]
      · have HF := Lib.hid (HNo.out (by rw [tOk_some]; simp [show ¬ s[k] ≤ ds[k] by omega]))
        clear HNo HT HB
        generalize s[k] = t at *
        generalize ds[k] = d at *
        have d1 : decide (t < bo) = false := by simp; omega
        have d2 : decide (d < t) = true := by simp [g2]
        go_wp2_with (fail)
        go_quiet (fail)
        go_wp2
        go_ret
        exact ⟨ret_bool (by simp [Pl.inTime, HF.out]), drewN_two _ _ _⟩
      by_cases g4 : k = 0
      · have HF := Lib.hid (show Pl.inT 0 l ds (s.take (k + 1)) = true by rw [HT.out, H.out]; rw [show Pl.lastS 0 (s.take k) = 0 by rw [g4]; rfl, tOk_zero HB.out]; simp; omega)
        clear HNo HT HB
        generalize s[k] = t at *
        generalize ds[k] = d at *
        have d1 : decide (t < bo) = false := by simp; omega
        have d2 : decide (d < t) = false := by simp; omega
        have d4 : decide (0 < k) = false := by simp; omega
        clear g4
        go_wp2_with (fail)
        go_quiet (fail)
        go_wp2
        go_roundw
        case rel => exact ⟨k + 1, _, by omega, by go_num, HF, rfl⟩
        case measure => first | omega | (simp [intOf]; done) | (simp [intOf]; omega)
      obtain ⟨b5, off5, hA, _, hc5⟩ := ints_at (k := k - 1) HR3.out (by omega)
      cases hA
      have HL := Lib.hid (lastS_prev s k k1 (by omega))
      have hk1 : (k : Int) - 1 = ((k - 1 : Nat) : Int) := by omega
      rw [HL.out] at HT HNo
      generalize s[k - 1] = pt at *
      by_cases g5 : s[k] < pt
      · have HF := Lib.hid (HNo.out (by rw [tOk_some]; simp [show ¬ pt ≤ s[k] by omega]))
        clear HL
        clear HNo HT HB
        generalize s[k] = t at *
        generalize ds[k] = d at *
        have d1 : decide (t < bo) = false := by simp; omega
        have d2 : decide (d < t) = false := by simp; omega
        have d4 : decide (0 < k) = true := by simp; omega
        have d5 : decide (t < pt) = true := by simp [g5]
        go_wp2_with (fail)
        go_quiet (fail)
        go_wp2
        go_ret
        exact ⟨ret_bool (by simp [Pl.inTime, HF.out]), drewN_two _ _ _⟩
      · have HF := Lib.hid (show Pl.inT 0 l ds (s.take (k + 1)) = true by rw [HT.out, H.out]; rw [tOk_some]; simp; omega)
        clear HL
        clear HNo HT HB
        generalize s[k] = t at *
        generalize ds[k] = d at *
        have d1 : decide (t < bo) = false := by simp; omega
        have d2 : decide (d < t) = false := by simp; omega
        have d4 : decide (0 < k) = true := by simp; omega
        have d5 : decide (t < pt) = false := by simp; omega
        go_wp2_with (fail)
        go_quiet (fail)
        go_wp2
        go_roundw
        case rel => exact ⟨k + 1, _, by omega, by go_num, HF, rfl⟩
        case measure => first | omega | (simp [intOf]; done) | (simp [intOf]; omega)
    · have HF := Lib.hid (show Pl.inTime l ds s = true by
        have h5 := H.out
        rw [List.take_of_length_le (by omega)] at h5
        simp [Pl.inTime, HN.out, h5])
      go_wp2
      go_ret
      exact ⟨ret_bool HF.out.symm, _, rfl⟩

end Go.Proofs.Ytofllhbcediafaa

/- Walk of the reference: lives. -/
import Derived.Test.YtofllhbcediafaaW11
namespace Go.Proofs.Ytofllhbcediafaa
open Go.RowKit
set_option linter.unusedVariables false

def livesR (x : List Pl.Life) : Bool := decide (0 < x.length) && Pl.chain (Pl.born x) x

theorem drewN_two (w : World) (m n : Nat) : ∃ k, (w.drewN m).drewN n = w.drewN k := ⟨m + n, by simp [World.drewN, Nat.add_assoc]⟩
theorem livesR_no (x : List Pl.Life) (k : Nat) (h : k < x.length) (hs : Pl.step (Pl.lastL (Pl.born x) (x.take k)) x[k] = false) : livesR x = false := by
  simp [livesR, Pl.chain_no _ x k h hs]

theorem lastL_prev (q : Int) (x : List Pl.Life) (k : Nat) (h : k < x.length) (h0 : 0 < k) : Pl.lastL q (x.take k) = (x[k - 1]'(by omega)).2 := by
  have := Pl.lastL_step q x (k - 1) (by omega)
  rwa [show k - 1 + 1 = k by omega] at this

theorem lastL_zero (x : List Pl.Life) (k : Nat) (h : k < x.length) (h0 : k = 0) : Pl.lastL (Pl.born x) (x.take k) = x[k].1 := by
  subst h0; simp [Pl.lastL, Pl.born_eq x h]

set_option maxHeartbeats 1000000 in
theorem lives_any (v : Value) (x : List Pl.Life) (w : World) (hv : IsLives w v x) (hl : x.length ≤ 9223372036854775807) :
    Calls Try.prog 28 #[v] w fun e w' => e = .returned (.bool (livesR x)) ∧ ∃ m, w' = w.drewN m := by
  obtain ⟨A, cap, rfl, hr⟩ := hv
  have HR := Lib.hid hr
  clear hr
  go_enter Try.func28, Try.ntmps28
  go_wp2
  go_loopw [3] (fun i wr => ∃ k m : Nat, k ≤ x.length ∧ i = .int .i64 k ∧ Hid (Pl.chain (Pl.born x) (x.take k) = true) ∧ wr = w.drewN m) (fun i _ => x.length - (intOf i).toNat)
  case atStart => exact ⟨0, 0, Nat.zero_le _, rfl, rfl, rfl⟩
  case round =>
    obtain ⟨k, m, hk, rfl, H, rfl⟩ := hrel
    by_cases hlt : k < x.length
    · obtain ⟨b, off, rfl, _, hc1, hc2⟩ := lives_at HR.out hlt
      have HN := Lib.hid (livesR_no x k hlt)
      have HS := Lib.hid (Pl.chain_step (Pl.born x) x k hlt)
      by_cases g1 : x[k].1 < 0
      · have HF := Lib.hid (HN.out (by unfold Pl.step; simp [show ¬ 0 ≤ x[k].1 by omega]))
        generalize x[k].1 = bo at *
        generalize x[k].2 = go at *
        have d1 : decide (bo < 0) = true := by simp [g1]
        go_wp2_with (fail)
        go_quiet (fail)
        go_wp2
        go_ret
        exact ⟨ret_bool HF.out.symm, drewN_two _ _ _⟩
      by_cases g2 : x[k].2 ≤ x[k].1
      · have HF := Lib.hid (HN.out (by unfold Pl.step; simp [show ¬ x[k].1 < x[k].2 by omega]))
        generalize x[k].1 = bo at *
        generalize x[k].2 = go at *
        have d1 : decide (bo < 0) = false := by simp; omega
        have d2 : decide (go ≤ bo) = true := by simp [g2]
        go_wp2_with (fail)
        go_quiet (fail)
        go_wp2
        go_ret
        exact ⟨ret_bool HF.out.symm, drewN_two _ _ _⟩
      by_cases g3 : 1099511627776 < x[k].2
      · have HF := Lib.hid (HN.out (by unfold Pl.step; simp [show ¬ x[k].2 ≤ 1099511627776 by omega]))
        generalize x[k].1 = bo at *
        generalize x[k].2 = go at *
        have d1 : decide (bo < 0) = false := by simp; omega
        have d2 : decide (go ≤ bo) = false := by simp; omega
        have d3 : decide ((1099511627776 : Int) < go) = true := by simp [g3]
        go_wp2_with (fail)
        go_quiet (fail)
        go_wp2
        go_ret
        exact ⟨ret_bool HF.out.symm, drewN_two _ _ _⟩
      by_cases g4 : k = 0
      · have HZ := Lib.hid (lastL_zero x k hlt g4)
        have HT := Lib.hid (show Pl.chain (Pl.born x) (x.take (k + 1)) = true by rw [HS.out, H.out]; unfold Pl.step; simp [HZ.out, show 0 ≤ x[k].1 by omega, show x[k].1 < x[k].2 by omega, show x[k].2 ≤ 1099511627776 by omega]; try omega)
        clear HN HS
        generalize x[k].1 = bo at *
        generalize x[k].2 = go at *
        have d1 : decide (bo < 0) = false := by simp; omega
        have d2 : decide (go ≤ bo) = false := by simp; omega
        have d3 : decide ((1099511627776 : Int) < go) = false := by simp; omega
        have d4 : decide (0 < k) = false := by simp; omega
        clear g4 HZ
        go_wp2_with (fail)
        go_quiet (fail)
        go_wp2
        go_roundw
        case rel =>
          exact ⟨k + 1, _, by omega, by go_num, HT, rfl⟩
        case measure => first | omega | (simp [intOf]; done) | (simp [intOf]; omega)
      obtain ⟨b2, off2, hA, _, hc3, hc4⟩ := lives_at (k := k - 1) HR.out (by omega)
      cases hA
      have HL := Lib.hid (lastL_prev (Pl.born x) x k hlt (by omega))
      have hk1 : (k : Int) - 1 = ((k - 1 : Nat) : Int) := by omega
      by_cases g5 : x[k].1 = x[k - 1].2
      · have HT := Lib.hid (show Pl.chain (Pl.born x) (x.take (k + 1)) = true by rw [HS.out, H.out]; unfold Pl.step; simp [HL.out, g5]; try omega)
        rw [← g5] at hc4
        clear g5 HL
        clear HN HS
        generalize x[k].1 = bo at *
        generalize x[k].2 = go at *
        have d1 : decide (bo < 0) = false := by simp; omega
        have d2 : decide (go ≤ bo) = false := by simp; omega
        have d3 : decide ((1099511627776 : Int) < go) = false := by simp; omega
        have d4 : decide (0 < k) = true := by simp; omega
        have d5 : (bo == bo) = true := by simp
        go_wp2_with (fail)
        go_quiet (fail)
        go_wp2
        go_roundw
        case rel =>
          exact ⟨k + 1, _, by omega, by go_num, HT, rfl⟩
        case measure => first | omega | (simp [intOf]; done) | (simp [intOf]; omega)
      · have HF := Lib.hid (HN.out (by unfold Pl.step; simp [HL.out, g5]))
        generalize x[k].1 = bo at *
        generalize x[k].2 = go at *
        generalize (x[k - 1]'(by omega)).2 = pg at *
        have d1 : decide (bo < 0) = false := by simp; omega
        have d2 : decide (go ≤ bo) = false := by simp; omega
        have d3 : decide ((1099511627776 : Int) < go) = false := by simp; omega
        have d4 : decide (0 < k) = true := by simp; omega
        have d5 : (bo == pg) = false := by simp [g5]
        clear g5 HL HN HS
        go_wp2_with (fail)
        go_quiet (fail)
        go_wp2
        go_ret
        exact ⟨ret_bool HF.out.symm, drewN_two _ _ _⟩
    · go_wp2
      go_ret
      refine ⟨ret_bool ?_, _, rfl⟩
      have := H.out
      rw [List.take_of_length_le (by omega)] at this
      simp only [livesR, this, Bool.and_true]
      rw [decide_eq_decide]; omega

end Go.Proofs.Ytofllhbcediafaa

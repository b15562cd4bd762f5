/- Walks of isSector, Check$1, Check$2, IndexFunc, ContainsFunc. -/
import Derived.Test.YtimpnpdhhhbmgaaPlain
namespace Go.Proofs.Ytimpnpdhhhbmgaa
open Go.RowKit
set_option linter.unusedVariables false
set_option linter.unusedSimpArgs false

theorem sec_any {v : Value} {b : By} {w : World} (hv : IsBytes w v b) {c : Bool} (hc : ((b.length : Int) == 128) = c) :
    Calls Try.prog 31 #[v] w fun e w' => e = .returned (.bool c) ∧ w = w' := by
  obtain ⟨A, cap, rfl, _⟩ := hv
  go_enter Try.func31, Try.ntmps31
  go_wp2
  go_ret
  exact ⟨by first | rfl | exact ret_bool hc, rfl⟩
theorem len128 (b : By) : ((b.length : Int) == 128) = !Dv.badS b := by
  unfold Dv.badS
  by_cases h : b.length = 128
  · rw [h]; rfl
  · have h2 : ¬ (b.length : Int) = 128 := by omega
    rw [beq_false_of_ne h2]
    simp [bne, h]
theorem badS_any {v : Value} {b : By} {w : World} (hv : IsBytes w v b) :
    Calls Try.prog 34 #[v] w fun e w' => e = .returned (.bool (Dv.badS b)) ∧ w = w' := by
  have HV := Lib.hid hv
  obtain ⟨A, cap, rfl, _⟩ := id hv
  clear hv
  go_enter Try.func34, Try.ntmps34
  go_wp2_with (fail)
  refine (sec_any HV.out (len128 b)).mono ?_
  rintro e w' ⟨rfl, rfl⟩
  go_wp2_with (fail)
  go_ret
  exact ⟨ret_bool (by simp), rfl⟩

set_option maxHeartbeats 1000000 in
theorem badW_any {p : Wr} {v : Value} {B n : Nat} {w : World} (hv : IsBytes w v p.data) (hB : w.cell? ⟨B, 0, none⟩ = some (.int .i64 n)) :
    Calls Try.prog 30 #[.agg #[.int .i64 p.at_, v], .pointer (some ⟨B, 0, none⟩)] w fun e w' => e = .returned (.bool (Dv.badW n p)) ∧ Below w.heap.size w w' := by
  have HV := Lib.hid hv
  obtain ⟨A, cap, rfl, _⟩ := id hv
  have hlt := cell_lt hB
  have hlt' : B < w.heap.size := hlt
  clear hv hlt
  obtain ⟨c, hc⟩ : ∃ c, Dv.badW n p = c := ⟨_, rfl⟩
  rw [hc]
  have HC := Lib.hid hc
  clear hc
  by_cases h1 : p.at_ < 0
  · obtain rfl : c = true := by rw [← HC.out]; unfold Dv.badW; simp [h1]
    have d1 : decide (p.at_ < 0) = true := decide_eq_true h1
    go_enter Try.func30, Try.ntmps30
    go_wp2_with (fail)
    go_ret
    exact ⟨rfl, al1 _ _⟩
  have d1 : decide (p.at_ < 0) = false := decide_eq_false h1
  by_cases h2 : (n : Int) ≤ p.at_
  · obtain rfl : c = true := by rw [← HC.out]; unfold Dv.badW; simp [h2]
    have d2 : decide ((n : Int) ≤ p.at_) = true := decide_eq_true h2
    go_enter Try.func30, Try.ntmps30
    go_wp2_with (fail)
    go_ret
    exact ⟨rfl, al1 _ _⟩
  have d2 : decide ((n : Int) ≤ p.at_) = false := decide_eq_false h2
  have HE := Lib.hid (show Dv.badS p.data = c by rw [← HC.out]; unfold Dv.badW Dv.badS; simp [h1, h2])
  go_enter Try.func30, Try.ntmps30
  go_wp2_with (refine (sec_any (HV.out.upb (al1 w _)) (len128 p.data)).mono ?_; rintro e w' ⟨rfl, rfl⟩)
  go_ret
  exact ⟨ret_bool (by simp [HE.out]), al1 _ _⟩
end Go.Proofs.Ytimpnpdhhhbmgaa

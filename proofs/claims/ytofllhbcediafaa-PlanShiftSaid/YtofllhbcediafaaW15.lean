/- Walks of the reference's Accepts, Few and Of. -/
import Derived.Test.YtofllhbcediafaaW14
namespace Go.Proofs.Ytofllhbcediafaa
open Go.RowKit
set_option linter.unusedVariables false

def fewB (l : List (List Pl.Life)) (ds s : List Int) : Bool :=
  !(decide (100 < l.length) && decide (l.length ≤ 1024)) && decide (l.length ≤ 1100) && decide (ds.length ≤ 1100) && decide (s.length ≤ 1100) && l.all (fun x => decide (x.length ≤ 20))

theorem all_take_step (l : List (List Pl.Life)) (k : Nat) (h : k < l.length) : (l.take (k + 1)).all (fun x => decide (x.length ≤ 20)) = ((l.take k).all (fun x => decide (x.length ≤ 20)) && decide (l[k].length ≤ 20)) := by
  rw [List.take_succ_eq_append_getElem h, List.all_append]; simp
theorem few_no {l : List (List Pl.Life)} (ds s : List Int) (k : Nat) (h : k < l.length) (hx : 20 < l[k].length) : fewB l ds s = false := by
  have : l.all (fun x => decide (x.length ≤ 20)) = false := by
    rw [List.all_eq_false]
    exact ⟨l[k], List.getElem_mem h, by simp; omega⟩
  unfold fewB; rw [this, Bool.and_false]

set_option maxHeartbeats 1000000 in
theorem few_any (v u x : Value) (l : List (List Pl.Life)) (ds s : List Int) (w : World) (hv : IsWords w v l) (hu : IsInts w u ds) (hx : IsInts w x s) (hl : l.length ≤ 9223372036854775807) (hl2 : ds.length ≤ 9223372036854775807) (hl3 : s.length ≤ 9223372036854775807) :
    Calls Try.prog 10 #[v, u, x] w fun e w' => e = .returned (.bool (fewB l ds s)) ∧ w = w' := by
  obtain ⟨A, cap, vs, rfl, hlen, hr, hvs⟩ := hv
  obtain ⟨A2, cap2, rfl, hr2⟩ := hu
  obtain ⟨A3, cap3, rfl, hr3⟩ := hx
  have HLEN := Lib.hid hlen
  have HR := Lib.hid hr
  have HVS := Lib.hid hvs
  clear hr hvs hlen hr2 hr3
  by_cases hc : (100 < l.length ∧ l.length ≤ 1024) ∨ 1100 < l.length ∨ 1100 < ds.length ∨ 1100 < s.length
  · have HF := Lib.hid (show fewB l ds s = false by
      unfold fewB
      rcases hc with h | h | h | h
      · simp [h.1, h.2]
      · simp [show ¬ l.length ≤ 1100 by omega]
      · simp [show ¬ ds.length ≤ 1100 by omega]
      · simp [show ¬ s.length ≤ 1100 by omega])
    by_cases a1 : 100 < l.length <;> by_cases a2 : l.length ≤ 1024 <;> by_cases a3 : 1100 < l.length <;> by_cases a4 : 1100 < ds.length <;> by_cases a5 : 1100 < s.length <;> (first | (exfalso; omega) | skip)
    all_goals
      clear hc
      go_enter Try.func10, Try.ntmps10
      go_wp2
      go_ret
      exact ⟨ret_bool HF.out.symm, rfl⟩
  · have HQ := Lib.hid (show fewB l ds s = l.all (fun x => decide (x.length ≤ 20)) by
      unfold fewB
      have h1 : (decide (100 < l.length) && decide (l.length ≤ 1024)) = false := by
        by_cases a1 : 100 < l.length <;> simp [a1]; omega
      rw [h1]
      simp [show l.length ≤ 1100 by omega, show ds.length ≤ 1100 by omega, show s.length ≤ 1100 by omega])
    have a3 : l.length ≤ 1100 := by omega
    have a4 : ds.length ≤ 1100 := by omega
    have a5 : s.length ≤ 1100 := by omega
    have a6 : l.length ≤ 100 ∨ 1024 < l.length := by omega
    clear hc
    rcases a6 with a6 | a6
    all_goals
      go_enter Try.func10, Try.ntmps10
      go_wp2
      go_loop [7] (fun i => ∃ k : Nat, k ≤ l.length ∧ i = .int .i64 k ∧ Hid ((l.take k).all (fun x => decide (x.length ≤ 20)) = true)) (fun i => l.length - (intOf i).toNat)
      case atStart => exact ⟨0, Nat.zero_le _, rfl, rfl⟩
      case round =>
        obtain ⟨k, hk, rfl, H⟩ := hrel
        by_cases hlt : k < l.length
        · obtain ⟨b, off, A4, c4, rfl, _, hc, hr4⟩ := words_at HLEN.out HR.out HVS.out hlt
          have HS := Lib.hid (all_take_step l k hlt)
          clear hr4
          by_cases g : 20 < l[k].length
          · have HF := Lib.hid (few_no ds s k hlt g)
            clear HS
            generalize l[k].length = xl at *
            go_wp2
            go_ret
            exact ⟨ret_bool HF.out.symm, rfl⟩
          · have HF := Lib.hid (show (l.take (k + 1)).all (fun x => decide (x.length ≤ 20)) = true by rw [HS.out, H.out]; simp; omega)
            clear HS
            generalize l[k].length = xl at *
            go_wp2
            go_round
            case rel => exact ⟨k + 1, by omega, by go_num, HF⟩
            case measure => first | omega | (simp [intOf]; done) | (simp [intOf]; omega)
        · have HF := Lib.hid (show fewB l ds s = true by
            have h5 := H.out
            rw [List.take_of_length_le (by omega)] at h5
            rw [HQ.out, h5])
          go_wp2
          go_ret
          exact ⟨ret_bool HF.out.symm, rfl⟩

set_option maxHeartbeats 1000000 in
theorem refAccepts_any (v u x : Value) (l : List (List Pl.Life)) (ds s : List Int) (w : World) (hv : IsWords w v l) (hu : IsInts w u ds) (hx : IsInts w x s) (hl : l.length ≤ 9223372036854775807) (hl3 : s.length ≤ 9223372036854775807) :
    Calls Try.prog 17 #[v, u, x] w fun e w' => e = .returned (.tuple #[.bool (accR l ds s), .int .i64 (Pl.err l ds)]) ∧ ∃ m, w' = w.drewN m := by
  have HV := Lib.hid hv
  have HU := Lib.hid hu
  have HX := Lib.hid hx
  obtain ⟨A, cap, vs, rfl, hlen, hr, hvs⟩ := hv
  obtain ⟨A2, cap2, rfl, hr2⟩ := hu
  obtain ⟨A3, cap3, rfl, hr3⟩ := hx
  clear hr hvs hlen hr2 hr3
  by_cases he : Pl.err l ds = 0
  · have HE := Lib.hid he
    have HA := Lib.hid (show accR l ds s = Pl.inTime l ds s by simp [accR, he])
    clear he
    go_enter Try.func17, Try.ntmps17
    go_wp2_with (fail)
    refine (refCheck_any _ _ l ds _ HV.out HU.out hl).mono ?_
    rintro e w1 ⟨rfl, m, rfl⟩
    rw [HE.out]
    go_wp2_with (fail)
    refine (refInTime_any _ _ _ l ds s _ (HV.out.drewN m) (HU.out.drewN m) (HX.out.drewN m) (right_of HE.out) hl3).mono ?_
    rintro e w2 ⟨rfl, n, rfl⟩
    go_wp2_with (fail)
    go_ret2
    exact ⟨by rw [HA.out, HE.out]; rfl, _, rfl⟩
  · have hne : (Pl.err l ds != 0) = true := by simp [he]
    have HA := Lib.hid (show accR l ds s = false by simp [accR, he])
    clear he
    go_enter Try.func17, Try.ntmps17
    go_wp2_with (fail)
    refine (refCheck_any _ _ l ds _ HV.out HU.out hl).mono ?_
    rintro e w1 ⟨rfl, m, rfl⟩
    go_wp2_with (fail)
    go_ret2
    exact ⟨by rw [HA.out]; rfl, _, rfl⟩

/-- how many versions are withdrawn -/
def ofN (t : Int) (x : List Pl.Life) : Nat := (x.filter (Pl.gone t)).length
theorem ofN_step (t : Int) (x : List Pl.Life) (k : Nat) (h : k < x.length) : ofN t (x.take (k + 1)) = ofN t (x.take k) + (if Pl.gone t x[k] = true then 1 else 0) := by
  unfold ofN
  rw [List.take_succ_eq_append_getElem h, List.filter_append, List.length_append]
  by_cases hg : Pl.gone t x[k] = true <;> simp [hg]
theorem ofN_le (t : Int) (x : List Pl.Life) (k : Nat) : ofN t (x.take k) ≤ k := by
  unfold ofN
  have := List.length_filter_le (Pl.gone t) (x.take k)
  have := List.length_take_le k x
  omega

set_option maxHeartbeats 1000000 in
theorem of_any (v : Value) (x : List Pl.Life) (t : Int) (w : World) (hv : IsLives w v x) (hl : x.length ≤ 1000000) :
    Calls Try.prog 31 #[v, .int .i64 t] w fun e w' => e = .returned (.int .i64 (ofN t x : Nat)) ∧ w = w' := by
  obtain ⟨A, cap, rfl, hr⟩ := hv
  have HR := Lib.hid hr
  clear hr
  go_enter Try.func31, Try.ntmps31
  go_wp2
  go_loop [5, 6] (fun n i => ∃ k : Nat, k ≤ x.length ∧ i = .int .i64 k ∧ n = .int .i64 (ofN t (x.take k) : Nat)) (fun _ i => x.length - (intOf i).toNat)
  case atStart => exact ⟨0, Nat.zero_le _, rfl, rfl⟩
  case round =>
    obtain ⟨k, hk, rfl, rfl⟩ := hrel
    by_cases hlt : k < x.length
    · obtain ⟨b, off, rfl, _, hc1, hc2⟩ := lives_at HR.out hlt
      have HS := Lib.hid (ofN_step t x k hlt)
      have hle := ofN_le t x k
      clear hc1
      by_cases g1 : x[k].2 < 1099511627776
      · by_cases g2 : t < x[k].2
        · have HF := Lib.hid (show ofN t (x.take (k + 1)) = ofN t (x.take k) + 1 by rw [HS.out, if_pos (by simp [Pl.gone, g1, g2])])
          clear HS
          generalize x[k].2 = go at *
          go_wp2
          go_round
          case rel => exact ⟨k + 1, by omega, by go_num, by rw [HF.out]; go_num⟩
          case measure => first | omega | (simp [intOf]; done) | (simp [intOf]; omega)
        · have HF := Lib.hid (show ofN t (x.take (k + 1)) = ofN t (x.take k) by rw [HS.out, if_neg (by simp [Pl.gone, g2])]; rfl)
          clear HS
          generalize x[k].2 = go at *
          go_wp2
          go_round
          case rel => exact ⟨k + 1, by omega, by go_num, by rw [HF.out]⟩
          case measure => first | omega | (simp [intOf]; done) | (simp [intOf]; omega)
      · have HF := Lib.hid (show ofN t (x.take (k + 1)) = ofN t (x.take k) by rw [HS.out, if_neg (by simp [Pl.gone, g1])]; rfl)
        clear HS
        generalize x[k].2 = go at *
        go_wp2
        go_round
        case rel => exact ⟨k + 1, by omega, by go_num, by rw [HF.out]⟩
        case measure => first | omega | (simp [intOf]; done) | (simp [intOf]; omega)
    · go_wp2
      go_ret
      exact ⟨ret_int (by rw [List.take_of_length_le (by omega)]), rfl⟩

end Go.Proofs.Ytofllhbcediafaa

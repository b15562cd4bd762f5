/- Walk of the reference's Check. -/
import Derived.Test.YtofllhbcediafaaW12
namespace Go.Proofs.Ytofllhbcediafaa
open Go.RowKit
set_option linter.unusedVariables false

theorem wordOk_lives (x : List Pl.Life) (d : Int) : Pl.wordOk x d = (livesR x && decide (0 ≤ d) && decide (d < 1099511627776)) := by
  unfold Pl.wordOk livesR
  cases decide (0 < x.length) <;> cases Pl.chain (Pl.born x) x <;> cases decide (0 ≤ d) <;> cases decide (d < 1099511627776) <;> rfl

theorem err_long {l : List (List Pl.Life)} (ds : List Int) (h : l.any Pl.long = true) : Pl.err l ds = 2 := by
  unfold Pl.err; rw [if_pos (by simp [h])]

set_option maxHeartbeats 2000000 in
theorem refCheck_any (v u : Value) (l : List (List Pl.Life)) (ds : List Int) (w : World) (hv : IsWords w v l) (hu : IsInts w u ds) (hl : l.length ≤ 9223372036854775807) :
    Calls Try.prog 14 #[v, u] w fun e w' => e = .returned (.int .i64 (Pl.err l ds)) ∧ ∃ m, w' = w.drewN m := by
  have HV := Lib.hid hv
  have HU := Lib.hid hu
  obtain ⟨A, cap, vs, rfl, hlen, hr, hvs⟩ := hv
  obtain ⟨A2, cap2, rfl, hr2⟩ := hu
  have HLEN := Lib.hid hlen
  have HR := Lib.hid hr
  have HVS := Lib.hid hvs
  have HR2 := Lib.hid hr2
  clear hr hvs hlen hr2
  by_cases h1 : 1024 < l.length
  · have HE := Lib.hid (show Pl.err l ds = 2 by simp [Pl.err, h1])
    go_enter Try.func14, Try.ntmps14
    go_wp2
    go_ret
    exact ⟨ret_int HE.out.symm, 0, rfl⟩
  go_enter Try.func14, Try.ntmps14
  go_wp2
  go_loop [5] (fun i => ∃ k : Nat, k ≤ l.length ∧ i = .int .i64 k ∧ Hid ((l.take k).any Pl.long = false)) (fun i => l.length - (intOf i).toNat)
  case atStart => exact ⟨0, Nat.zero_le _, rfl, rfl⟩
  case round =>
    obtain ⟨k, hk, rfl, H⟩ := hrel
    by_cases hlt : k < l.length
    · obtain ⟨b, off, A', c', rfl, _, hc, hr'⟩ := words_at HLEN.out HR.out HVS.out hlt
      have HLO := Lib.hid (fun (h : Pl.long l[k] = true) => err_long (l := l) ds (List.any_eq_true.2 ⟨l[k], List.getElem_mem hlt, h⟩))
      have HTK := Lib.hid (show (l.take (k + 1)).any Pl.long = ((l.take k).any Pl.long || Pl.long l[k]) by rw [List.take_succ_eq_append_getElem hlt, List.any_append]; simp)
      clear hr'
      by_cases ho : 16 < l[k].length
      · have HF := Lib.hid (HLO.out (by simp [Pl.long, ho]))
        clear HLO HTK
        generalize l[k] = x at *
        go_wp2
        go_ret
        exact ⟨ret_int HF.out.symm, 0, rfl⟩
      · have HF := Lib.hid (show (l.take (k + 1)).any Pl.long = false by rw [HTK.out, H.out]; simp [Pl.long]; omega)
        clear HLO HTK
        generalize l[k] = x at *
        go_wp2
        go_round
        case rel => exact ⟨k + 1, by omega, by go_num, HF⟩
        case measure => first | omega | (simp [intOf]; done) | (simp [intOf]; omega)
    · have H2 := Lib.hid (show l.any Pl.long = false by have := H.out; rwa [List.take_of_length_le (by omega)] at this)
      clear H
      by_cases h3 : ds.length = l.length
      rotate_left
      · have HE := Lib.hid (show Pl.err l ds = 500 by unfold Pl.err; rw [if_neg (by simp [H2.out]; omega), if_neg h3])
        go_wp2
        go_ret
        exact ⟨ret_int HE.out.symm, 0, rfl⟩
      have H3 := Lib.hid h3
      have h3b : ((ds.length : Int) == (l.length : Int)) = true := by simp [h3]
      have hd1 : ds.length ≤ l.length := by omega
      have hd2 : l.length ≤ ds.length := by omega
      clear h3
      go_wp2
      go_loopw [6] (fun i wr => ∃ k m : Nat, k ≤ l.length ∧ i = .int .i64 k ∧ Hid (Pl.allOk (l.take k) ds = true) ∧ wr = w.drewN m) (fun i _ => l.length - (intOf i).toNat)
      case atStart => exact ⟨0, 0, Nat.zero_le _, rfl, rfl, rfl⟩
      case round =>
        obtain ⟨k, m, hk, rfl, H, rfl⟩ := hrel
        by_cases hlt : k < l.length
        · have hkd : k < ds.length := by omega
          obtain ⟨b, off, A3, c3, rfl, _, hc, hr3⟩ := words_at HLEN.out HR.out HVS.out hlt
          obtain ⟨b2, off2, rfl, _, hc2⟩ := ints_at HR2.out hkd
          have HW := Lib.hid (fun hw => err_word (l := l) (ds := ds) (by omega) H2.out H3.out k hlt hkd hw)
          have HT := Lib.hid (Pl.allOk_take l ds k hlt hkd)
          have hx16 := len16 H2.out hlt
          have HX := Lib.hid (show IsLives w (.slice A3 l[k].length c3) l[k] from ⟨_, _, rfl, hr3⟩)
          clear hr3
          cases hlv : livesR l[k]
          · have HF := Lib.hid (HW.out (by rw [wordOk_lives]; simp [hlv]))
            clear HW HT
            generalize l[k] = x at *
            generalize ds[k] = d at *
            go_wp2_with (fail)
            refine (lives_any _ _ _ (IsLives.drewN HX.out m) (by omega)).mono ?_
            rintro e w' ⟨rfl, q, rfl⟩
            rw [hlv]
            go_wp2
            go_ret
            exact ⟨ret_int HF.out.symm, _, rfl⟩
          by_cases g1 : ds[k] < 0
          · have HF := Lib.hid (HW.out (by rw [wordOk_lives]; simp [show ¬ 0 ≤ ds[k] by omega]))
            clear HW HT
            generalize l[k] = x at *
            generalize ds[k] = d at *
            have d1 : decide (d < 0) = true := by simp [g1]
            go_wp2_with (fail)
            refine (lives_any _ _ _ (IsLives.drewN HX.out m) (by omega)).mono ?_
            rintro e w' ⟨rfl, q, rfl⟩
            rw [hlv]
            go_wp2
            go_ret
            exact ⟨ret_int HF.out.symm, _, rfl⟩
          by_cases g2 : 1099511627776 ≤ ds[k]
          · have HF := Lib.hid (HW.out (by rw [wordOk_lives]; simp [show ¬ ds[k] < 1099511627776 by omega]))
            clear HW HT
            generalize l[k] = x at *
            generalize ds[k] = d at *
            have d1 : decide (d < 0) = false := by simp; omega
            have d2 : decide ((1099511627776 : Int) ≤ d) = true := by simp [g2]
            go_wp2_with (fail)
            refine (lives_any _ _ _ (IsLives.drewN HX.out m) (by omega)).mono ?_
            rintro e w' ⟨rfl, q, rfl⟩
            rw [hlv]
            go_wp2
            go_ret
            exact ⟨ret_int HF.out.symm, _, rfl⟩
          have HF := Lib.hid (show Pl.allOk (l.take (k + 1)) ds = true by rw [HT.out, H.out, wordOk_lives]; simp [hlv]; omega)
          clear HW HT
          generalize l[k] = x at *
          generalize ds[k] = d at *
          have d1 : decide (d < 0) = false := by simp; omega
          have d2 : decide ((1099511627776 : Int) ≤ d) = false := by simp; omega
          go_wp2_with (fail)
          refine (lives_any _ _ _ (IsLives.drewN HX.out m) (by omega)).mono ?_
          rintro e w' ⟨rfl, q, rfl⟩
          rw [hlv]
          go_wp2
          go_roundw
          case rel => exact ⟨k + 1, _, by omega, by go_num, HF, rfl⟩
          case measure => first | omega | (simp [intOf]; done) | (simp [intOf]; omega)
        · have HF := Lib.hid (show Pl.err l ds = 0 by
            have h5 := H.out
            rw [List.take_of_length_le (by omega)] at h5
            unfold Pl.err; rw [if_neg (by simp [H2.out]; omega), if_pos H3.out, if_pos h5])
          go_wp2
          go_ret
          exact ⟨ret_int HF.out.symm, _, rfl⟩

end Go.Proofs.Ytofllhbcediafaa

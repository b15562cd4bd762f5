/- Walks of level, within, check, Level. -/
import Derived.Test.YtagbdjdphghflaaW1
namespace Go.Proofs.Ytagbdjdphghflaa
open Go.RowKit

theorem below_drewN {B : Nat} {a w : World} (h : Below B a w) (n : Nat) : Below B a (w.drewN n) := ⟨h.os, h.tape, h.output, h.size, h.block⟩

theorem level_eq (c : Int) (xs : List Int) (low : Int) (hc : 0 ≤ c) (hS : Small xs) (h0 : 0 ≤ low) (h1 : low ≤ Pl.most xs 0 + 1) (h2 : ∀ m, 0 ≤ m → m < low → Pl.sumMin m xs ≤ c)
    (h3 : low = Pl.most xs 0 + 1 ∨ c < Pl.sumMin low xs) : low - 1 = Pl.level c xs := by
  have hm := Pl.most_bd xs 0 (by omega) hS.2
  have hz := Pl.sumMin_zero xs (fun x hx => (hS.2 x hx).1)
  have hlow : low ≠ 0 := by
    rintro rfl
    omega
  refine (Pl.lev_unique c xs _ (low - 1) (by omega) (by omega) (h2 _ (by omega) (by omega)) (fun m hm1 hm2 => ?_)).symm
  have := Pl.sumMin_mono low m (by omega) xs
  omega

set_option maxHeartbeats 400000 in
theorem level_any (c : Int) (v : Value) (xs : List Int) (w : World) (hv : IsInts w v xs) (hS : Small xs) (hc : 0 ≤ c) :
    Calls Try.prog 20 #[.int .i64 c, v] w fun e w' => e = .returned (.int .i64 (Pl.level c xs)) ∧ Below w.heap.size w w' := by
  have HV := Lib.hid hv
  have HS := Lib.hid hS
  obtain ⟨A, cap, rfl, hr⟩ := hv
  have hl : xs.length ≤ 100 := hS.1
  have HR := Lib.hid hr
  clear hS hr
  go_enter Try.func20, Try.ntmps20
  go_wp2
  go_loop [5, 10] (fun s i => ∃ k : Nat, k ≤ xs.length ∧ i = .int .i64 k ∧ s = .int .i64 (Pl.most (xs.take k) 0)) (fun _ i => xs.length - (intOf i).toNat)
  case atStart => exact ⟨0, Nat.zero_le _, rfl, rfl⟩
  case round =>
    obtain ⟨k, hk, rfl, rfl⟩ := hrel
    have h3 := Pl.most_bd (xs.take k) 0 (by omega) (fun x hx => HS.out.2 x (List.mem_of_mem_take hx))
    by_cases hlt : k < xs.length
    · obtain ⟨b, off, rfl, _, hc⟩ := ints_at (HR.out.below ((((Below.refl _ w).alloc (Nat.le_refl _) (.cells #[.int .i64 c] 3)).alloc (by simp) (.cells #[.slice A xs.length cap] 22)))) hlt
      have h4 := HS.out.2 xs[k] (List.getElem_mem hlt)
      have H5 := Lib.hid (Pl.most_take xs k 0 hlt)
      go_wp2
      all_goals
        go_round
        case rel => exact ⟨k+1, by omega, by go_num, by rw [H5.out]; congr 1; omega⟩
        case measure => simp [intOf]; omega
    · have hk' : k = xs.length := by omega
      have HE := Lib.hid (show xs.take k = xs by rw [hk', List.take_length])
      clear hk'
      go_wp2_with (go_at_call 29; refine (search_any _ c (w.heap.size + 1) w.heap.size (.slice A xs.length cap) xs _ (by go_simp) (by go_simp) (HV.out.below ((((Below.refl _ w).alloc (Nat.le_refl _) (.cells #[.int .i64 c] 3)).alloc (by simp) (.cells #[.slice A xs.length cap] 22)))) HS.out (by omega) (by omega)).mono ?_; rintro e w' ⟨⟨low, rfl, h5, h6, h7, h8⟩, q2, rfl⟩)
      go_ret
      rw [HE.out] at h6 h8
      exact ⟨ret_int (level_eq c xs low hc HS.out h5 h6 h7 h8), below_drewN (((Below.refl _ w).alloc (Nat.le_refl _) _).alloc (by simp) _) _⟩

def outN (n : Int) : Bool := decide (n < 0) || decide (1099511627776 < n)

set_option maxHeartbeats 400000 in
theorem within1_any (n : Int) (bm : Nat) (w : World) (hm : w.cell? ⟨bm, 0, none⟩ = some (.int .i64 1099511627776)) :
    Calls Try.prog 34 #[.int .i64 n, .pointer (some ⟨bm, 0, none⟩)] w fun e w' => e = .returned (.bool (outN n)) ∧ w = w' := by
  unfold outN
  by_cases h : n < 0
  · go_enter Try.func34, Try.ntmps34
    go_wp2
    go_ret
    exact ⟨by simp [h], rfl⟩
  · go_enter Try.func34, Try.ntmps34
    go_wp2
    go_ret
    exact ⟨ret_bool (by rw [show decide (n < 0) = false by simp; omega]; rfl), rfl⟩

set_option maxHeartbeats 400000 in
theorem indexFunc_any (v : Value) (xs : List Int) (bm : Nat) (w : World) (hv : IsInts w v xs) (hl : xs.length ≤ 100) (hm : w.cell? ⟨bm, 0, none⟩ = some (.int .i64 1099511627776)) :
    Calls Try.prog 35 #[v, .func (.func 34) #[] #[.pointer (some ⟨bm, 0, none⟩)]] w fun e w' => (∃ r : Int, e = .returned (.int .i64 r) ∧ decide (0 ≤ r) = xs.any outN) ∧ w = w' := by
  obtain ⟨A, cap, rfl, hr⟩ := hv
  have HR := Lib.hid hr
  have HM := Lib.hid hm
  clear hr hm
  go_enter Try.func35, Try.ntmps35
  go_wp2
  go_loop [8] (fun i => ∃ k : Nat, k ≤ xs.length ∧ i = .int .i64 k ∧ Hid ((xs.take k).any outN = false)) (fun i => xs.length - (intOf i).toNat)
  case atStart => exact ⟨0, Nat.zero_le _, rfl, rfl⟩
  case round =>
    obtain ⟨k, hk, rfl, H⟩ := hrel
    by_cases hlt : k < xs.length
    · obtain ⟨b, off, rfl, _, hc⟩ := ints_at HR.out hlt
      cases ho : outN xs[k]
      · go_wp2_with (go_at_call 34; refine (within1_any _ bm _ HM.out).mono ?_; rintro e w' ⟨rfl, rfl⟩)
        go_round
        case rel => exact ⟨k + 1, by omega, by go_num, by show (xs.take (k + 1)).any outN = false; rw [List.take_succ_eq_append_getElem hlt, List.any_append, H.out]; simp [ho]⟩
        case measure => simp [intOf]; omega
      · go_wp2_with (go_at_call 34; refine (within1_any _ bm _ HM.out).mono ?_; rintro e w' ⟨rfl, rfl⟩)
        go_ret
        refine ⟨⟨_, rfl, ?_⟩, rfl⟩
        have : xs.any outN = true := List.any_eq_true.2 ⟨xs[k], List.getElem_mem hlt, ho⟩
        rw [this]; simp
    · go_wp2
      go_ret
      refine ⟨⟨_, rfl, ?_⟩, rfl⟩
      have := H.out
      rw [List.take_of_length_le (by omega)] at this
      rw [this]; simp

set_option maxHeartbeats 400000 in
theorem containsFunc_any (v : Value) (xs : List Int) (bm : Nat) (w : World) (hv : IsInts w v xs) (hl : xs.length ≤ 100) (hm : w.cell? ⟨bm, 0, none⟩ = some (.int .i64 1099511627776)) :
    Calls Try.prog 33 #[v, .func (.func 34) #[] #[.pointer (some ⟨bm, 0, none⟩)]] w fun e w' => e = .returned (.bool (xs.any outN)) ∧ w = w' := by
  have HV := Lib.hid hv
  obtain ⟨A, cap, rfl, hr⟩ := hv
  have HM := Lib.hid hm
  clear hr hm
  go_enter Try.func33, Try.ntmps33
  go_wp2_with (go_at_call 35; refine (indexFunc_any _ xs bm _ HV.out hl HM.out).mono ?_; rintro e w' ⟨⟨r, rfl, hr⟩, rfl⟩; have HRr := Lib.hid hr; clear hr)
  go_ret
  exact ⟨ret_bool HRr.out, rfl⟩

set_option maxHeartbeats 400000 in
theorem within_any (v : Value) (xs : List Int) (w : World) (hv : IsInts w v xs) (hl : xs.length ≤ 100) :
    Calls Try.prog 28 #[.int .i64 1099511627776, v] w fun e w' => e = .returned (.bool (!xs.any outN)) ∧ Below w.heap.size w w' := by
  have HV := Lib.hid hv
  obtain ⟨A, cap, rfl, hr⟩ := hv
  clear hr
  go_enter Try.func28, Try.ntmps28
  go_wp2_with (go_at_call 33; refine (containsFunc_any _ xs w.heap.size _ (HV.out.below ((Below.refl _ w).alloc (Nat.le_refl _) _)) hl (by go_simp)).mono ?_; rintro e w' ⟨rfl, rfl⟩)
  go_ret
  exact ⟨rfl, (Below.refl _ w).alloc (Nat.le_refl _) _⟩

theorem outN_ok (n : Int) : outN n = !Pl.okN n := by
  unfold outN Pl.okN
  by_cases h1 : n < 0 <;> by_cases h2 : 1099511627776 < n <;> simp [h1, h2] <;> omega
theorem any_outN (xs : List Int) : xs.any outN = !xs.all Pl.okN := by
  induction xs with
  | nil => rfl
  | cons a l ih => simp only [List.any_cons, List.all_cons, ih, outN_ok, Bool.not_and]

theorem ints_new (w : World) (c : Int) : IsInts (w.alloc (.cells #[.int .i64 c] 3)) (.slice (some ⟨w.heap.size, 0, none⟩) 1 1) [c] :=
  ⟨_, 1, rfl, fun _ => ⟨_, _, rfl, by simp, fun i hi => by
    obtain rfl : i = 0 := by simpa using hi
    simp⟩⟩

set_option maxHeartbeats 400000 in
theorem check_any (c : Int) (v : Value) (xs : List Int) (w : World) (hv : IsInts w v xs) (hl : xs.length ≤ 9223372036854775807) :
    Calls Try.prog 19 #[.int .i64 c, v] w fun e w' => e = .returned (.int .i64 (Pl.err c xs)) ∧ Below w.heap.size w w' := by
  have HV := Lib.hid hv
  obtain ⟨A, cap, rfl, hr⟩ := hv
  clear hr
  by_cases h32 : 32 < xs.length
  · go_enter Try.func19, Try.ntmps19
    go_wp2
    go_ret
    exact ⟨by simp [Pl.err, h32], Below.refl _ _⟩
  · have h100 : xs.length ≤ 100 := by omega
    have hcA : [c].any outN = !Pl.okN c := by simp [outN_ok]
    have HE1 := Lib.hid hcA
    have HE2 := Lib.hid (any_outN xs)
    clear hcA
    have HN := Lib.hid (ints_new w c)
    go_enter Try.func19, Try.ntmps19
    go_wp2_with (fail)
    refine (within_any _ [c] _ HN.out (by simp)).mono ?_
    rintro e w1 ⟨rfl, hb1⟩
    rw [HE1.out]
    have hb0 : Below w.heap.size w w1 := ((Below.refl _ w).alloc (Nat.le_refl _) _).up hb1
    cases hc : Pl.okN c
    · go_wp2_with (fail)
      go_ret
      exact ⟨by simp [Pl.err, h32, hc], hb0⟩
    · go_wp2_with (fail)
      refine (within_any _ xs _ (HV.out.below hb0) h100).mono ?_
      rintro e w2 ⟨rfl, hb2⟩
      rw [HE2.out]
      have hb3 := hb0.up hb2
      cases ha : xs.all Pl.okN
      · go_wp2_with (fail)
        go_ret
        exact ⟨by simp [Pl.err, h32, hc, ha], hb3⟩
      · go_wp2_with (fail)
        go_ret
        exact ⟨by simp [Pl.err, h32, hc, ha], hb3⟩

theorem err_ok {c : Int} {xs : List Int} (h : Pl.err c xs = 0) : 0 ≤ c ∧ c ≤ 1099511627776 ∧ Small xs ∧ xs.length ≤ 32 := by
  unfold Pl.err at h
  split at h
  · omega
  · split at h
    · rename_i h1 h2
      simp only [Bool.and_eq_true, Pl.okN, decide_eq_true_eq, List.all_eq_true] at h2
      exact ⟨h2.1.1, h2.1.2, ⟨by omega, fun x hx => h2.2 x hx⟩, by omega⟩
    · omega

def levelR (c : Int) (xs : List Int) : Int := if Pl.err c xs = 0 then Pl.level c xs else 0

set_option maxHeartbeats 400000 in
theorem Level_any (c : Int) (v : Value) (xs : List Int) (w : World) (hv : IsInts w v xs) (hl : xs.length ≤ 9223372036854775807) :
    Calls Try.prog 12 #[.int .i64 c, v] w fun e w' => e = .returned (.tuple #[.int .i64 (levelR c xs), .int .i64 (Pl.err c xs)]) ∧ Below w.heap.size w w' := by
  have HV := Lib.hid hv
  obtain ⟨A, cap, rfl, hr⟩ := hv
  clear hr
  by_cases he : Pl.err c xs = 0
  · have HE := Lib.hid he
    have H0 := err_ok he
    have hc0 := H0.1
    have HS := Lib.hid H0.2.2.1
    clear he H0
    go_enter Try.func12, Try.ntmps12
    go_wp2_with (fail)
    refine (check_any c _ xs _ HV.out hl).mono ?_
    rintro e w1 ⟨rfl, hb1⟩
    rw [HE.out]
    go_wp2_with (fail)
    refine (level_any c _ xs _ (HV.out.below hb1) HS.out hc0).mono ?_
    rintro e w2 ⟨rfl, hb2⟩
    go_wp2_with (fail)
    go_ret2
    exact ⟨by simp [levelR, HE.out], hb1.up hb2⟩
  · have hne : (Pl.err c xs != 0) = true := by simpa using he
    go_enter Try.func12, Try.ntmps12
    go_wp2_with (fail)
    refine (check_any c _ xs _ HV.out hl).mono ?_
    rintro e w1 ⟨rfl, hb1⟩
    go_wp2_with (fail)
    go_ret2
    exact ⟨by simp [levelR, he], hb1⟩

end Go.Proofs.Ytagbdjdphghflaa

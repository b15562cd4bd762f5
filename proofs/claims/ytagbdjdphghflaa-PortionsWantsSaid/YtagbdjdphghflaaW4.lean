/- Walks of the comparison of lists and of the reference. -/
import Derived.Test.YtagbdjdphghflaaW3
namespace Go.Proofs.Ytagbdjdphghflaa
open Go.RowKit

theorem same_of_take {xs ys : List Int} (h1 : xs.length ≤ ys.length) (h2 : ys.length ≤ xs.length) {k : Nat} (hk : xs.length ≤ k) (h : xs.take k = ys.take k) : xs = ys := by
  rwa [List.take_of_length_le hk, List.take_of_length_le (by omega)] at h

set_option maxHeartbeats 400000 in
theorem equal_any (v u : Value) (xs ys : List Int) (w : World) (hv : IsInts w v xs) (hu : IsInts w u ys) (hl : xs.length ≤ 9223372036854775807) (hl2 : ys.length ≤ 9223372036854775807) :
    Calls Try.prog 27 #[v, u] w fun e w' => e = .returned (.bool (decide (xs = ys))) ∧ ∃ k, w' = w.drewN k := by
  obtain ⟨A, c, rfl, hr⟩ := hv
  obtain ⟨A2, c2, rfl, hr2⟩ := hu
  have HR := Lib.hid hr
  have HR2 := Lib.hid hr2
  clear hr hr2
  by_cases hne : xs.length = ys.length
  · have h1 : xs.length ≤ ys.length := by omega
    have h2 : ys.length ≤ xs.length := by omega
    clear hne
    go_enter Try.func27, Try.ntmps27
    go_wp2
    go_loopw [13] (fun i wr => ∃ k : Nat, k ≤ xs.length ∧ i = .int .i64 k ∧ Hid (xs.take k = ys.take k) ∧ ∃ q, wr = w.drewN q) (fun i _ => xs.length - (intOf i).toNat)
    case atStart => exact ⟨0, Nat.zero_le _, rfl, rfl, 0, rfl⟩
    case round =>
      obtain ⟨k, hk, rfl, H, q, rfl⟩ := hrel
      by_cases hlt : k < xs.length
      · obtain ⟨b, off, rfl, _, hc⟩ := ints_at HR.out hlt
        obtain ⟨b2, off2, rfl, _, hc2⟩ := ints_at HR2.out (show k < ys.length by omega)
        by_cases he : xs[k] = ys[k]
        · have hb : (xs[k] != ys[k]) = false := by simpa using he
          have HE := Lib.hid he
          clear he
          go_wp2
          go_quiet (fail)
          go_wp2
          go_roundw
          case rel => exact ⟨k + 1, by omega, by go_num, by show xs.take (k + 1) = ys.take (k + 1); rw [List.take_succ_eq_append_getElem hlt, List.take_succ_eq_append_getElem (by omega), H.out, HE.out], _, rfl⟩
          case measure => first | omega | (simp [intOf]; omega)
        · have hb : (xs[k] != ys[k]) = true := by simpa using he
          go_wp2
          go_quiet (fail)
          go_wp2
          go_ret
          exact ⟨ret_bool (by symm; simp; rintro rfl; exact he rfl), _, World.drewN_drewN ..⟩
      · go_wp2
        go_ret
        exact ⟨ret_bool (by symm; simpa using same_of_take h1 h2 (by omega) H.out), _, rfl⟩
  · have hb : ((xs.length : Int) != (ys.length : Int)) = true := by simp; omega
    go_enter Try.func27, Try.ntmps27
    go_wp2
    go_ret
    exact ⟨ret_bool (by symm; simp; rintro rfl; exact hne rfl), 0, rfl⟩

set_option maxHeartbeats 400000 in
theorem sameInts_any (v u : Value) (xs ys : List Int) (w : World) (hv : IsInts w v xs) (hu : IsInts w u ys) (hl : xs.length ≤ 9223372036854775807) (hl2 : ys.length ≤ 9223372036854775807) :
    Calls Try.prog 14 #[v, u] w fun e w' => e = .returned (.bool (decide (xs = ys))) ∧ ∃ k, w' = w.drewN k := by
  obtain ⟨A, c, rfl, hr⟩ := hv
  obtain ⟨A2, c2, rfl, hr2⟩ := hu
  have HR := Lib.hid hr
  have HR2 := Lib.hid hr2
  clear hr hr2
  by_cases hne : xs.length = ys.length
  · have h1 : xs.length ≤ ys.length := by omega
    have h2 : ys.length ≤ xs.length := by omega
    clear hne
    go_enter Try.func14, Try.ntmps14
    go_wp2
    go_loopw [5] (fun i wr => ∃ k : Nat, k ≤ xs.length ∧ i = .int .i64 k ∧ Hid (xs.take k = ys.take k) ∧ ∃ q, wr = w.drewN q) (fun i _ => xs.length - (intOf i).toNat)
    case atStart => exact ⟨0, Nat.zero_le _, rfl, rfl, 0, rfl⟩
    case round =>
      obtain ⟨k, hk, rfl, H, q, rfl⟩ := hrel
      by_cases hlt : k < xs.length
      · obtain ⟨b, off, rfl, _, hc⟩ := ints_at HR.out hlt
        obtain ⟨b2, off2, rfl, _, hc2⟩ := ints_at HR2.out (show k < ys.length by omega)
        by_cases he : xs[k] = ys[k]
        · have hb : (xs[k] != ys[k]) = false := by simpa using he
          have HE := Lib.hid he
          clear he
          go_wp2
          go_quiet (fail)
          go_wp2
          go_roundw
          case rel => exact ⟨k + 1, by omega, by go_num, by show xs.take (k + 1) = ys.take (k + 1); rw [List.take_succ_eq_append_getElem hlt, List.take_succ_eq_append_getElem (by omega), H.out, HE.out], _, rfl⟩
          case measure => first | omega | (simp [intOf]; omega)
        · have hb : (xs[k] != ys[k]) = true := by simpa using he
          go_wp2
          go_quiet (fail)
          go_wp2
          go_ret
          exact ⟨ret_bool (by symm; simp; rintro rfl; exact he rfl), _, World.drewN_drewN ..⟩
      · go_wp2
        go_ret
        exact ⟨ret_bool (by symm; simpa using same_of_take h1 h2 (by omega) H.out), _, rfl⟩
  · have hb : ((xs.length : Int) != (ys.length : Int)) = true := by simp; omega
    go_enter Try.func14, Try.ntmps14
    go_wp2
    go_ret
    exact ⟨ret_bool (by symm; simp; rintro rfl; exact hne rfl), 0, rfl⟩

set_option maxHeartbeats 400000 in
theorem refGiven_any (v : Value) (xs : List Int) (n : Int) (w : World) (hv : IsInts w v xs) (hS : Small xs) (hn : 0 ≤ n) (hn2 : n ≤ 1099511627777) :
    Calls Try.prog 23 #[v, .int .i64 n] w fun e w' => e = .returned (.int .i64 (Pl.sumMin n xs)) ∧ w = w' := by
  obtain ⟨A, c, rfl, hr⟩ := hv
  have hl : xs.length ≤ 100 := hS.1
  go_enter Try.func23, Try.ntmps23
  go_wp2
  go_loop [5, 6] (fun s i => ∃ k : Nat, k ≤ xs.length ∧ i = .int .i64 k ∧ s = .int .i64 (Pl.sumMin n (xs.take k))) (fun _ i => xs.length - (intOf i).toNat)
  case atStart => exact ⟨0, Nat.zero_le _, rfl, rfl⟩
  case round =>
    obtain ⟨k, hk, rfl, rfl⟩ := hrel
    by_cases hlt : k < xs.length
    · obtain ⟨b, off, rfl, _, hc⟩ := ints_at hr hlt
      have h3 := Pl.sumMin_bd n (xs.take k) (fun x hx => hS.2 x (List.mem_of_mem_take hx)) hn
      have h3' : (xs.take k).length ≤ 100 := by simp; omega
      have h4 := hS.2 xs[k] (List.getElem_mem hlt)
      have H5 := Lib.hid (Pl.sumMin_take n xs k hlt)
      have h6 : Pl.sumMin n (xs.take k) ≤ 109951162777600 := by omega
      clear hr hS
      go_wp2
      all_goals
        go_round
        case rel => exact ⟨k+1, by omega, by go_num, by rw [H5.out]; congr 1; omega⟩
        case measure => simp [intOf]; omega
    · go_wp2
      go_ret
      exact ⟨ret_int (by rw [List.take_of_length_le (by omega)]), rfl⟩

set_option maxHeartbeats 400000 in
theorem amount_any (n : Int) (w : World) : Calls Try.prog 32 #[.int .i64 n] w fun e w' => e = .returned (.bool (Pl.okN n)) ∧ w = w' := by
  unfold Pl.okN
  by_cases h : 0 ≤ n
  · go_enter Try.func32, Try.ntmps32
    go_wp2
    go_ret
    exact ⟨ret_bool (by rw [show decide (0 ≤ n) = true by simpa using h]; rfl), rfl⟩
  · go_enter Try.func32, Try.ntmps32
    go_wp2
    go_ret
    exact ⟨ret_bool (by rw [show decide (0 ≤ n) = false by simp; omega]; rfl), rfl⟩

set_option maxHeartbeats 400000 in
theorem refError_any (c : Int) (v : Value) (xs : List Int) (w : World) (hv : IsInts w v xs) (hl : xs.length ≤ 9223372036854775807) :
    Calls Try.prog 24 #[.int .i64 c, v] w fun e w' => e = .returned (.int .i64 (Pl.err c xs)) ∧ w = w' := by
  obtain ⟨A, cap, rfl, hr⟩ := hv
  have HR := Lib.hid hr
  clear hr
  by_cases h32 : 32 < xs.length
  · go_enter Try.func24, Try.ntmps24
    go_wp2
    go_ret
    exact ⟨by simp [Pl.err, h32], rfl⟩
  · cases hc : Pl.okN c
    · go_enter Try.func24, Try.ntmps24
      go_wp2_with (go_at_call 32; refine (amount_any _ _).mono ?_; rintro e w' ⟨rfl, rfl⟩)
      go_ret
      exact ⟨by simp [Pl.err, h32, hc], rfl⟩
    · go_enter Try.func24, Try.ntmps24
      go_wp2_with (go_at_call 32; refine (amount_any _ _).mono ?_; rintro e w' ⟨rfl, rfl⟩)
      go_loop [5] (fun i => ∃ k : Nat, k ≤ xs.length ∧ i = .int .i64 k ∧ Hid ((xs.take k).all Pl.okN = true)) (fun i => xs.length - (intOf i).toNat)
      case atStart => exact ⟨0, Nat.zero_le _, rfl, rfl⟩
      case round =>
        obtain ⟨k, hk, rfl, H⟩ := hrel
        by_cases hlt : k < xs.length
        · obtain ⟨b, off, rfl, _, hc0⟩ := ints_at HR.out hlt
          cases ho : Pl.okN xs[k]
          · go_wp2_with (go_at_call 32; refine (amount_any _ _).mono ?_; rintro e w' ⟨rfl, rfl⟩)
            go_ret
            have : xs.all Pl.okN = false := by
              rw [List.all_eq_false]; exact ⟨xs[k], List.getElem_mem hlt, by simp [ho]⟩
            exact ⟨by simp [Pl.err, h32, hc, this], rfl⟩
          · go_wp2_with (go_at_call 32; refine (amount_any _ _).mono ?_; rintro e w' ⟨rfl, rfl⟩)
            go_round
            case rel => exact ⟨k + 1, by omega, by go_num, by show (xs.take (k + 1)).all Pl.okN = true; rw [List.take_succ_eq_append_getElem hlt, List.all_append, H.out]; simp [ho]⟩
            case measure => simp [intOf]; omega
        · go_wp2
          go_ret
          have := H.out
          rw [List.take_of_length_le (by omega)] at this
          exact ⟨by simp [Pl.err, h32, hc, this], rfl⟩

set_option maxHeartbeats 400000 in
theorem greatest_any (v : Value) (xs : List Int) (w : World) (hv : IsInts w v xs) (hS : Small xs) :
    Calls Try.prog 26 #[v] w fun e w' => e = .returned (.int .i64 (Pl.most xs 0)) ∧ w = w' := by
  obtain ⟨A, c, rfl, hr⟩ := hv
  have hl : xs.length ≤ 100 := hS.1
  go_enter Try.func26, Try.ntmps26
  go_wp2
  go_loop [3, 4] (fun s i => ∃ k : Nat, k ≤ xs.length ∧ i = .int .i64 k ∧ s = .int .i64 (Pl.most (xs.take k) 0)) (fun _ i => xs.length - (intOf i).toNat)
  case atStart => exact ⟨0, Nat.zero_le _, rfl, rfl⟩
  case round =>
    obtain ⟨k, hk, rfl, rfl⟩ := hrel
    by_cases hlt : k < xs.length
    · obtain ⟨b, off, rfl, _, hc⟩ := ints_at hr hlt
      have h3 := Pl.most_bd (xs.take k) 0 (by omega) (fun x hx => hS.2 x (List.mem_of_mem_take hx))
      have h4 := hS.2 xs[k] (List.getElem_mem hlt)
      have H5 := Lib.hid (Pl.most_take xs k 0 hlt)
      clear hr hS
      go_wp2
      all_goals
        go_round
        case rel => exact ⟨k+1, by omega, by go_num, by rw [H5.out]; congr 1; omega⟩
        case measure => simp [intOf]; omega
    · go_wp2
      go_ret
      exact ⟨ret_int (by rw [List.take_of_length_le (by omega)]), rfl⟩

set_option maxHeartbeats 400000 in
theorem between_any (d : Nat) : ∀ (c : Int) (v : Value) (xs : List Int) (low high : Int) (w : World), IsInts w v xs → Small xs → high - low ≤ d → 0 ≤ low → low < high → high ≤ 1099511627777 → Pl.sumMin low xs ≤ c →
    (high = Pl.most xs 0 + 1 ∨ c < Pl.sumMin high xs) →
    Calls Try.prog 25 #[.int .i64 c, v, .int .i64 low, .int .i64 high] w fun e w' => (∃ n : Int, e = .returned (.int .i64 n) ∧ low ≤ n ∧ n < high ∧ Pl.sumMin n xs ≤ c ∧ (n + 1 = Pl.most xs 0 + 1 ∨ c < Pl.sumMin (n + 1) xs)) ∧ w = w' := by
  induction d with
  | zero => intro c v xs low high w hv hS hd h0 h1; omega
  | succ d ih =>
    intro c v xs low high w hv hS hd h0 h1 h2 h3 h4
    have HV := Lib.hid hv
    have HS := Lib.hid hS
    have H4 := Lib.hid h4
    have HIH := Lib.hid ih
    obtain ⟨A, cap, rfl, hr⟩ := hv
    clear hr hS h4 ih
    by_cases hle : high - low ≤ 1
    · go_enter Try.func25, Try.ntmps25
      go_wp2_with (fail)
      go_ret
      obtain rfl : high = low + 1 := by omega
      exact ⟨⟨low, rfl, by omega, by omega, h3, H4.out⟩, rfl⟩
    · by_cases hg : Pl.sumMin ((low + high) / 2) xs ≤ c
      · go_enter Try.func25, Try.ntmps25
        go_wp2_with (fail)
        refine (refGiven_any _ xs _ _ HV.out HS.out (by omega) (by omega)).mono ?_
        rintro e w' ⟨rfl, rfl⟩
        go_wp2_with (fail)
        refine (HIH.out c _ xs ((low + high) / 2) high _ HV.out HS.out (by omega) (by omega) (by omega) (by omega) hg H4.out).mono ?_
        rintro e w' ⟨⟨n, rfl, h5, h6, h7, h8⟩, rfl⟩
        have H8 := Lib.hid h8
        clear h8
        go_wp2_with (fail)
        go_ret
        exact ⟨⟨n, rfl, by omega, h6, h7, H8.out⟩, rfl⟩
      · go_enter Try.func25, Try.ntmps25
        go_wp2_with (fail)
        refine (refGiven_any _ xs _ _ HV.out HS.out (by omega) (by omega)).mono ?_
        rintro e w' ⟨rfl, rfl⟩
        go_wp2_with (fail)
        refine (HIH.out c _ xs low ((low + high) / 2) _ HV.out HS.out (by omega) (by omega) (by omega) (by omega) h3 (.inr (by omega))).mono ?_
        rintro e w' ⟨⟨n, rfl, h5, h6, h7, h8⟩, rfl⟩
        have H8 := Lib.hid h8
        clear h8
        go_wp2_with (fail)
        go_ret
        exact ⟨⟨n, rfl, by omega, by omega, h7, H8.out⟩, rfl⟩

set_option maxHeartbeats 400000 in
theorem refLevel_any (c : Int) (v : Value) (xs : List Int) (w : World) (hv : IsInts w v xs) (hl : xs.length ≤ 9223372036854775807) :
    Calls Try.prog 13 #[.int .i64 c, v] w fun e w' => e = .returned (.tuple #[.int .i64 (levelR c xs), .int .i64 (Pl.err c xs)]) ∧ w = w' := by
  have HV := Lib.hid hv
  obtain ⟨A, cap, rfl, hr⟩ := hv
  clear hr
  by_cases he : Pl.err c xs = 0
  · have HE := Lib.hid he
    have H0 := err_ok he
    have hc0 := H0.1
    have HS := Lib.hid H0.2.2.1
    have hm := Pl.most_bd xs 0 (by omega) HS.out.2
    have hz := Pl.sumMin_zero xs (fun x hx => (HS.out.2 x hx).1)
    have hz' : Pl.sumMin 0 xs ≤ c := by omega
    clear he H0 hz
    go_enter Try.func13, Try.ntmps13
    go_wp2_with (fail)
    refine (refError_any c _ xs _ HV.out hl).mono ?_
    rintro e w1 ⟨rfl, rfl⟩
    rw [HE.out]
    go_wp2_with (fail)
    refine (greatest_any _ xs _ HV.out HS.out).mono ?_
    rintro e w2 ⟨rfl, rfl⟩
    go_wp2_with (fail)
    refine (between_any (Pl.most xs 0 + 1).toNat c _ xs 0 _ _ HV.out HS.out (by omega) (by omega) (by omega) (by omega) hz' (.inl rfl)).mono ?_
    rintro e w2 ⟨⟨n, rfl, h5, h6, h7, h8⟩, rfl⟩
    have H8 := Lib.hid h8
    clear h8
    go_wp2_with (fail)
    go_ret2
    have := level_eq c xs (n + 1) hc0 HS.out (by omega) (by omega) (fun m h1 h2 => by have := Pl.sumMin_mono m n (by omega) xs; omega) H8.out
    exact ⟨by simp [levelR, HE.out, ← this], rfl⟩
  · have hne : (Pl.err c xs != 0) = true := by simpa using he
    go_enter Try.func13, Try.ntmps13
    go_wp2_with (fail)
    refine (refError_any c _ xs _ HV.out hl).mono ?_
    rintro e w1 ⟨rfl, rfl⟩
    go_wp2_with (fail)
    go_ret2
    exact ⟨by simp [levelR, he], rfl⟩

end Go.Proofs.Ytagbdjdphghflaa

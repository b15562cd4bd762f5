/- Walks of numbers and checksums, in the program and in the reference. Walks of numeral and put: the bytes of a number. Walk of encode. -/
import Derived.Test.YtkcnanclpkongaaJPA
import Derived.Test.YtkcnanclpkongaaWE
import Derived.Laws.BitsAllLaws
import Derived.Laws.BitsLemmas
import Derived.Test.YtkcnanclpkongaaTB
import Derived.Deep.Cut
import Derived.Shelf.Abstract
namespace Go.Proofs.Ytkcnanclpkongaa
section
open Go.RowKit
set_option linter.unusedVariables false
set_option linter.unusedSimpArgs false

theorem num_small {bs : By} {k : Nat} (h : k ≤ bs.length) (h4 : bs.length ≤ 4) : Jn.num (bs.take k) ≤ 4294967295 := by
  have h1 := Jn.num_lt k (bs.take k) (by rw [List.length_take]; omega)
  have h2 : 256 ^ k ≤ 256 ^ 4 := Nat.pow_le_pow_right (by omega) (by omega)
  have h3 : 256 ^ 4 = 4294967296 := by decide
  omega
theorem or_join {m u : Nat} (hm : m ≤ 4294967295) (hu : u < 256) : bits .or .u64 ((m : Int) * 256) (u : Int) = ((256 * m + u : Nat) : Int) := by
  have h := u64_or_nat (m * 256) u (by omega) (by omega)
  rw [nat_join 8 (m * 256) u (by omega) (by omega)] at h
  rw [show (m : Int) * 256 = ((m * 256 : Nat) : Int) by simp, h]
  omega
set_option maxHeartbeats 1000000 in
theorem number_any {v : Value} {bs : By} {w : World} (hv : IsBytes w v bs) (hl : bs.length ≤ 4) :
    Calls Try.prog 63 #[v] w fun e w' => e = .returned (.int .u64 (Jn.num bs : Int)) ∧ w = w' := by
  have HV := Lib.hid hv
  obtain ⟨A, c, rfl, _⟩ := id hv
  clear hv
  go_enter Try.func63, Try.ntmps63
  go_wp2_with (fail)
  go_loop [3, 4] (fun n i => ∃ k : Nat, k ≤ bs.length ∧ i = .int .i64 k ∧ n = .int .u64 (Jn.num (bs.take k) : Int)) (fun _ i => bs.length - (intOf i).toNat)
  case atStart => exact ⟨0, Nat.zero_le _, rfl, rfl⟩
  case round =>
    obtain ⟨k, hk, rfl, rfl⟩ := hrel
    have hs := num_small hk hl
    by_cases hlt : k < bs.length
    · have hd : decide ((k : Int) < (bs.length : Int)) = true := decide_eq_true (by omega)
      obtain ⟨b, off, hA, hb, hc⟩ := bytes_at HV.out hlt
      subst hA
      have HS := Lib.hid (Jn.num_take hlt)
      have hc8 := bs[k].toNat_lt
      obtain ⟨m, hm⟩ : ∃ m, Jn.num (bs.take k) = m := ⟨_, rfl⟩
      obtain ⟨u, hu⟩ : ∃ u, bs[k].toNat = u := ⟨_, rfl⟩
      rw [hm] at hs HS ⊢
      rw [hu] at hc hc8 HS
      clear hm hu
      go_wp2_with (fail)
      go_round
      case rel => exact ⟨k + 1, by omega, by go_num, by rw [HS.out]; go_num⟩
      case measure => simp [intOf]; omega
    · obtain rfl : k = bs.length := by omega
      have hd : decide ((bs.length : Int) < (bs.length : Int)) = false := decide_eq_false (by omega)
      go_wp2_with (fail)
      go_ret
      exact ⟨rfl, rfl⟩
set_option maxHeartbeats 1000000 in
theorem get_any {v : Value} {bs : By} {w : World} (hv : IsBytes w v bs) (hl : bs.length ≤ 4) :
    Calls Try.prog 41 #[v] w fun e w' => e = .returned (.int .u64 (Jn.num bs : Int)) ∧ w = w' := by
  have HV := Lib.hid hv
  obtain ⟨A, c, rfl, _⟩ := id hv
  clear hv
  go_enter Try.func41, Try.ntmps41
  go_wp2_with (fail)
  go_loop [2, 7] (fun n i => ∃ k : Nat, k ≤ bs.length ∧ i = .int .i64 k ∧ n = .int .u64 (Jn.num (bs.take k) : Int)) (fun _ i => bs.length - (intOf i).toNat)
  case atStart => exact ⟨0, Nat.zero_le _, rfl, rfl⟩
  case round =>
    obtain ⟨k, hk, rfl, rfl⟩ := hrel
    have hs := num_small hk hl
    by_cases hlt : k < bs.length
    · have hd : decide ((k : Int) < (bs.length : Int)) = true := decide_eq_true (by omega)
      obtain ⟨b, off, hA, hb, hc⟩ := bytes_at HV.out hlt
      subst hA
      have HS := Lib.hid (Jn.num_take hlt)
      have hc8 := bs[k].toNat_lt
      obtain ⟨m, hm⟩ : ∃ m, Jn.num (bs.take k) = m := ⟨_, rfl⟩
      obtain ⟨u, hu⟩ : ∃ u, bs[k].toNat = u := ⟨_, rfl⟩
      rw [hm] at hs HS ⊢
      rw [hu] at hc hc8 HS
      clear hm hu
      have HO := Lib.hid (or_join (m := m) (u := u) (by omega) (by omega))
      go_wp2_with (fail)
      go_round
      case rel => exact ⟨k + 1, by omega, by go_num, by rw [HO.out, HS.out]⟩
      case measure => simp [intOf]; omega
    · obtain rfl : k = bs.length := by omega
      have hd : decide ((bs.length : Int) < (bs.length : Int)) = false := decide_eq_false (by omega)
      go_wp2_with (fail)
      go_ret
      exact ⟨rfl, rfl⟩
theorem step_odd {y : Nat} (hy : y < 4294967296) (h : y % 2 = 1) : bits .xor .u32 ((y : Int) / 2) 3988292384 = (Jn.step y : Int) := by
  have := u32_xor_nat (y / 2) 3988292384 (by omega) (by omega)
  unfold Jn.step
  rw [if_pos h, ← this]
  rfl
theorem step_even {y : Nat} (h : ¬ y % 2 = 1) : (y : Int) / 2 = (Jn.step y : Int) := by
  unfold Jn.step
  rw [if_neg h]
  rfl
theorem step_prog {y : Nat} (hy : y < 4294967296) : bits .xor .u32 ((y : Int) / 2) (3988292384 * bits .and .u32 (y : Int) 1 % 4294967296) = (Jn.step y : Int) := by
  have ha := u32_and_nat y 1 hy (by omega)
  rw [nat_mask1] at ha
  rw [show bits .and .u32 (y : Int) 1 = ((y % 2 : Nat) : Int) from ha]
  by_cases h : y % 2 = 1
  · rw [h]
    exact step_odd hy h
  · have h0 : y % 2 = 0 := by omega
    rw [h0, ← step_even h]
    have := u32_xor_nat (y / 2) 0 (by omega) (by omega)
    rw [Nat.xor_zero] at this
    exact this
theorem crc_end (bs : By) : bits .xor .u32 (Jn.crcL 4294967295 bs : Int) 4294967295 = (Jn.crc bs : Int) :=
  u32_xor_nat _ 4294967295 (Jn.crcL_lt bs (by omega)) (by omega)
theorem crc_end' (bs : By) : bits .xor .u32 IntKind.u32.max (Jn.crcL 4294967295 bs : Int) = (Jn.crc bs : Int) := by
  have := u32_xor_nat 4294967295 _ (by omega) (Jn.crcL_lt bs (n := 4294967295) (by omega))
  rw [Nat.xor_comm] at this
  exact this
set_option maxHeartbeats 2000000 in
theorem sum_any {v : Value} {bs : By} {w : World} (hv : IsBytes w v bs) (hl : bs.length ≤ 1000) :
    Calls Try.prog 65 #[v] w fun e w' => e = .returned (.int .u32 (Jn.crc bs : Int)) ∧ w = w' := by
  have HV := Lib.hid hv
  obtain ⟨A, c, rfl, _⟩ := id hv
  clear hv
  go_enter Try.func65, Try.ntmps65
  go_wp2_with (fail)
  go_loop [3, 8] (fun n i => ∃ k : Nat, k ≤ bs.length ∧ i = .int .i64 k ∧ n = .int .u32 (Jn.crcL 4294967295 (bs.take k) : Int)) (fun _ i => bs.length - (intOf i).toNat)
  case atStart => exact ⟨0, Nat.zero_le _, rfl, rfl⟩
  case round =>
    obtain ⟨k, hk, rfl, rfl⟩ := hrel
    have hs : Jn.crcL 4294967295 (bs.take k) < 4294967296 := Jn.crcL_lt _ (by omega)
    by_cases hlt : k < bs.length
    · have hd : decide ((k : Int) < (bs.length : Int)) = true := decide_eq_true (by omega)
      obtain ⟨b, off, hA, hb, hc⟩ := bytes_at HV.out hlt
      subst hA
      have HS := Lib.hid (Jn.crcL_take hlt 4294967295)
      have hc8 := bs[k].toNat_lt
      obtain ⟨m, hm⟩ : ∃ m, Jn.crcL 4294967295 (bs.take k) = m := ⟨_, rfl⟩
      unfold Jn.crcB at HS
      obtain ⟨u, hu⟩ : ∃ u, bs[k].toNat = u := ⟨_, rfl⟩
      rw [hm] at hs HS ⊢
      rw [hu] at hc hc8 HS
      clear hm hu
      have hx := u32_xor_nat m u hs (by omega)
      have hx2 : m ^^^ u < 4294967296 := Jn.xor_lt32 hs (by omega)
      obtain ⟨x, hxx⟩ : ∃ x, m ^^^ u = x := ⟨_, rfl⟩
      rw [hxx] at HS hx hx2
      clear hxx
      go_wp2_with (fail)
      go_loop [3, 16] (fun n i => ∃ j : Nat, j ≤ 8 ∧ i = .int .i64 j ∧ n = .int .u32 (Jn.steps j x : Int)) (fun _ i => 8 - (intOf i).toNat)
      case atStart => exact ⟨0, Nat.zero_le _, rfl, rfl⟩
      case round =>
        obtain ⟨j, hj, rfl, rfl⟩ := hrel
        have hy := Jn.steps_lt j hx2
        have HT := Lib.hid (Jn.steps_succ j x)
        obtain ⟨y, hyy⟩ : ∃ y, Jn.steps j x = y := ⟨_, rfl⟩
        by_cases hl8 : j < 8
        · have hd8 : decide ((j : Int) < 8) = true := decide_eq_true (by omega)
          rw [hyy] at hy HT ⊢
          clear hyy
          have HP := Lib.hid (step_prog hy)
          go_wp2_with (fail)
          go_round
          case rel => exact ⟨j + 1, by omega, by go_num, by rw [HP.out, HT.out]⟩
          case measure => simp [intOf]; omega
        · obtain rfl : j = 8 := by omega
          have hd8 : decide ((8 : Int) < 8) = false := by decide
          rw [hyy] at hy HT ⊢
          have HSY := Lib.hid (show Jn.crcL 4294967295 (bs.take (k + 1)) = y by rw [HS.out, hyy])
          clear hyy
          go_wp2_with (fail)
          go_round
          case rel => exact ⟨k + 1, by omega, by go_num, by rw [HSY.out]⟩
          case measure => simp [intOf]; omega
    · obtain rfl : k = bs.length := by omega
      have hd : decide ((bs.length : Int) < (bs.length : Int)) = false := decide_eq_false (by omega)
      rw [List.take_length] at hs
      have hx := crc_end' bs
      clear hs
      go_wp2_with (fail)
      go_ret
      exact ⟨rfl, rfl⟩

set_option maxHeartbeats 2000000 in
theorem checksum_any {v : Value} {bs : By} {w : World} (hv : IsBytes w v bs) (hl : bs.length ≤ 1000) :
    Calls Try.prog 67 #[v] w fun e w' => e = .returned (.int .u32 (Jn.crc bs : Int)) ∧ w = w' := by
  have HV := Lib.hid hv
  obtain ⟨A, c, rfl, _⟩ := id hv
  clear hv
  go_enter Try.func67, Try.ntmps67
  go_wp2_with (fail)
  go_loop [3, 4] (fun n i => ∃ k : Nat, k ≤ bs.length ∧ i = .int .i64 k ∧ n = .int .u32 (Jn.crcL 4294967295 (bs.take k) : Int)) (fun _ i => bs.length - (intOf i).toNat)
  case atStart => exact ⟨0, Nat.zero_le _, rfl, rfl⟩
  case round =>
    obtain ⟨k, hk, rfl, rfl⟩ := hrel
    have hs : Jn.crcL 4294967295 (bs.take k) < 4294967296 := Jn.crcL_lt _ (by omega)
    by_cases hlt : k < bs.length
    · have hd : decide ((k : Int) < (bs.length : Int)) = true := decide_eq_true (by omega)
      obtain ⟨b, off, hA, hb, hc⟩ := bytes_at HV.out hlt
      subst hA
      have HS := Lib.hid (Jn.crcL_take hlt 4294967295)
      have hc8 := bs[k].toNat_lt
      obtain ⟨m, hm⟩ : ∃ m, Jn.crcL 4294967295 (bs.take k) = m := ⟨_, rfl⟩
      unfold Jn.crcB at HS
      obtain ⟨u, hu⟩ : ∃ u, bs[k].toNat = u := ⟨_, rfl⟩
      rw [hm] at hs HS ⊢
      rw [hu] at hc hc8 HS
      clear hm hu
      have hx := u32_xor_nat m u hs (by omega)
      have hx2 : m ^^^ u < 4294967296 := Jn.xor_lt32 hs (by omega)
      obtain ⟨x, hxx⟩ : ∃ x, m ^^^ u = x := ⟨_, rfl⟩
      rw [hxx] at HS hx hx2
      clear hxx
      go_wp2_with (fail)
      go_loop [3, 5] (fun n i => ∃ j : Nat, j ≤ 8 ∧ i = .int .i64 j ∧ n = .int .u32 (Jn.steps j x : Int)) (fun _ i => 8 - (intOf i).toNat)
      case atStart => exact ⟨0, Nat.zero_le _, rfl, rfl⟩
      case round =>
        obtain ⟨j, hj, rfl, rfl⟩ := hrel
        have hy := Jn.steps_lt j hx2
        have HT := Lib.hid (Jn.steps_succ j x)
        obtain ⟨y, hyy⟩ : ∃ y, Jn.steps j x = y := ⟨_, rfl⟩
        by_cases hl8 : j < 8
        · have hd8 : decide ((j : Int) < 8) = true := decide_eq_true (by omega)
          rw [hyy] at hy HT ⊢
          clear hyy
          by_cases hp : y % 2 = 1
          · have hp1 : ((y : Int) % 2 == 1) = true := by rw [beq_iff_eq]; omega
            have HP := Lib.hid (step_odd hy hp)
            have HPP := Lib.hid hp
            clear hp
            go_wp2_with (fail)
            go_round
            case rel => exact ⟨j + 1, by omega, by go_num, by rw [HP.out, HT.out]⟩
            case measure => simp [intOf]; omega
          · have hp1 : ((y : Int) % 2 == 1) = false := by rw [beq_eq_false_iff_ne]; omega
            have HP := Lib.hid (step_even hp)
            clear hp
            go_wp2_with (fail)
            go_round
            case rel => exact ⟨j + 1, by omega, by go_num, by rw [HP.out, HT.out]⟩
            case measure => simp [intOf]; omega
        · obtain rfl : j = 8 := by omega
          have hd8 : decide ((8 : Int) < 8) = false := by decide
          rw [hyy] at hy HT ⊢
          have HSY := Lib.hid (show Jn.crcL 4294967295 (bs.take (k + 1)) = y by rw [HS.out, hyy])
          clear hyy
          go_wp2_with (fail)
          go_round
          case rel => exact ⟨k + 1, by omega, by go_num, by rw [HSY.out]⟩
          case measure => simp [intOf]; omega
    · obtain rfl : k = bs.length := by omega
      have hd : decide ((bs.length : Int) < (bs.length : Int)) = false := decide_eq_false (by omega)
      rw [List.take_length] at hs
      have hx := crc_end bs
      clear hs
      go_wp2_with (fail)
      go_ret
      exact ⟨rfl, rfl⟩

end
section
open Go.RowKit
set_option linter.unusedVariables false
set_option linter.unusedSimpArgs false

/-- bytes written over others -/
def ovr (bs : By) (o : Nat) (xs : By) : By := bs.take o ++ (xs ++ bs.drop (o + xs.length))
theorem ovr_len {bs xs : By} {o : Nat} (h : o + xs.length ≤ bs.length) : (ovr bs o xs).length = bs.length := by
  unfold ovr; simp only [List.length_append, List.length_take, List.length_drop]; omega
theorem ovr_nil {bs : By} {o : Nat} (h : o ≤ bs.length) : ovr bs o [] = bs := by
  unfold ovr; simp
theorem ovr_set {bs xs : By} {o : Nat} (c : UInt8) (h : o + 1 + xs.length ≤ bs.length) : (ovr bs (o + 1) xs).set o c = ovr bs o (c :: xs) := by
  unfold ovr
  have e : bs.take (o + 1) = bs.take o ++ [bs[o]'(by omega)] := List.take_succ_eq_append_getElem (by omega)
  rw [e, List.append_assoc, List.set_append_right _ _ (by rw [List.length_take]; omega)]
  have : o - (bs.take o).length = 0 := by rw [List.length_take]; omega
  rw [this]
  simp only [List.singleton_append, List.set_cons_zero, List.length_cons, List.cons_append, List.nil_append]
  rw [show o + 1 + xs.length = o + (xs.length + 1) by omega]
theorem enc_set (bs : By) (k : Nat) (c : UInt8) : (bs.map encB).set k (encB c) = (bs.set k c).map encB := by rw [List.map_set]
theorem own_cells {W : World} {base g : Nat} {bs : By} (h : Cells W g 5 (bs.map encB)) (hb : base ≤ g) {n : Nat} (hn : n = bs.length) (hl : bs.length ≤ 1000000) : OwnBytes W base (.slice (some ⟨g, 0, none⟩) n n) bs := by
  subst hn
  refine ⟨by simp, .inr ⟨g, bs.length, (bs.map encB).toArray, rfl, hb, h, Nat.le_refl _, by unfold maxLen; omega, by simp, ?_⟩⟩
  rw [Nat.mul_one, List.take_of_length_le (by simp)]
theorem make_bytes (m : Nat) (hm : m ≤ 1000000) (w : World) : (Instr.makeSlice 35 (.int .i64 m) (.int .i64 m)).run Try.prog w = .ok (.slice (some ⟨w.heap.size, 0, none⟩) m m) (w.alloc (.cells ((List.replicate m (0 : UInt8)).map encB).toArray 5)) := by
  obtain ⟨i0, hi, hz0, hz1, hz2⟩ := info_parts info5
  have hb : (i0.bytes : Int) * ((m : Nat) : Int) ≤ 281474976710656 := by rw [hz2]; omega
  have hr := run_make (P := Try.prog) w 35 5 i0 _ Try.underlying35 hi hz0 .i64 .i64 m m (by omega) (by omega) hb (by omega)
  simp only [Int.toNat_natCast] at hr
  rw [hr, hz1, ← zs_arr', Nat.mul_one]
  rfl
theorem rep_ovr (m : Nat) : ∀ j, j ≤ m → ∀ n, ovr (List.replicate m 0) (m - j) (Jn.nml n j) = List.replicate (m - j) 0 ++ Jn.nml n j := by
  intro j hj n
  unfold ovr
  rw [Jn.nml_len, show m - j + j = m by omega, List.drop_of_length_le (by simp), List.append_nil, List.take_replicate, Nat.min_eq_left (by omega)]
theorem ofNat_enc (x : Nat) : Value.int .u8 ((x % 256 : Nat) : Int) = encB (UInt8.ofNat x) := by
  unfold encB; rw [UInt8.toNat_ofNat']
set_option maxHeartbeats 2000000 in
theorem numeral_any {n m : Nat} {w : World} (hm : m ≤ 8) (hn : n < 18446744073709551616) :
    Calls Try.prog 66 #[.int .u64 n, .int .i64 m] w fun e w' => ∃ u, e = .returned u ∧ OwnBytes w' w.heap.size u (Jn.nml n m) ∧ Below w.heap.size w w' := by
  have hmk := make_bytes m (by omega) w
  have HZ := Lib.hid (Cells.new w 5 ((List.replicate m (0 : UInt8)).map encB))
  obtain ⟨ZL, hZL⟩ : ∃ L, ((List.replicate m (0 : UInt8)).map encB) = L := ⟨_, rfl⟩
  have HZL := Lib.hid hZL
  rw [hZL] at hmk HZ
  clear hZL
  have HB := Lib.hid (al1 w (.cells ZL.toArray 5))
  go_enter Try.func66, Try.ntmps66
  go_wp2_with (fail)
  obtain ⟨W0, hW0⟩ : ∃ W, w.alloc (.cells ZL.toArray 5) = W := ⟨_, rfl⟩
  rw [hW0] at HZ HB
  simp only [hW0]
  clear hW0 hmk
  obtain ⟨g, hg⟩ : ∃ g, w.heap.size = g := ⟨_, rfl⟩
  rw [hg] at HZ HB
  simp only [hg]
  have HG := Lib.hid hg
  clear hg
  go_loopw [0, 6] (fun s0 s6 wr => ∃ r x : Nat, r ≤ m ∧ s6 = .int .i64 ((r : Int) - 1) ∧ s0 = .int .u64 x ∧ Hid (x = n / 256 ^ (m - r)) ∧ x < 18446744073709551616 ∧ Hid (Cells wr g 5 ((ovr (List.replicate m 0) r (Jn.nml n (m - r))).map encB)) ∧ Hid (Below g w wr)) (fun _ s6 _ => (intOf s6 + 1).toNat)
  case atStart =>
    refine ⟨m, n, Nat.le_refl _, rfl, rfl, Lib.hid (by simp), hn, ?_, HB⟩
    have h := HZ.out
    rw [← HZL.out] at h
    refine Lib.hid ?_
    rw [Nat.sub_self]
    show Cells W0 g 5 ((ovr (List.replicate m 0) m []).map encB)
    rw [ovr_nil (by simp)]
    exact h
  case round =>
    clear HB HZ
    obtain ⟨r, x, hr, rfl, rfl, HX, hx, HC, HB⟩ := hrel
    cases r with
    | succ r =>
      have e : ((r + 1 : Nat) : Int) - 1 = (r : Int) := by omega
      rw [e]
      clear e
      have hr0 : 0 ≤ (r : Int) := by omega
      have hrm : (r : Int) < (m : Int) := by omega
      have hrn : r < m := by omega
      have hc := HC.out.cell (k := r) (v := encB ((ovr (List.replicate m 0) (r + 1) (Jn.nml n (m - (r + 1)))).getD r 0)) (by
        rw [List.getElem?_map, List.getElem?_eq_getElem (by rw [ovr_len (by rw [Jn.nml_len, List.length_replicate]; omega), List.length_replicate]; omega)]
        simp [List.getD, List.getElem?_eq_getElem (show r < (ovr (List.replicate m 0) (r + 1) (Jn.nml n (m - (r + 1)))).length by rw [ovr_len (by rw [Jn.nml_len, List.length_replicate]; omega), List.length_replicate]; omega)])
      have hf := HC.out.frozen r
      have hgl := HC.out.lt
      have HC' := Lib.hid (show Cells (wr.setCell ⟨g, r, none⟩ (.int .u8 ((x : Int) % 256))) g 5 ((ovr (List.replicate m 0) r (Jn.nml n (m - r))).map encB) by
        have h := HC.out.set (k := r) (encB (UInt8.ofNat x))
        rw [enc_set, ovr_set _ (by rw [Jn.nml_len, List.length_replicate]; omega), ← ofNat_enc] at h
        rw [show m - r = m - (r + 1) + 1 by omega, Jn.nml_cons, ← HX.out]
        exact h)
      have HB' := Lib.hid (HB.out.setCell (p := ⟨g, r, none⟩) (Nat.le_refl _) (.int .u8 ((x : Int) % 256)))
      have HX' := Lib.hid (show x / 256 = n / 256 ^ (m - r) by rw [HX.out, Nat.div_div_eq_div_mul, show m - r = m - (r + 1) + 1 by omega, Nat.pow_succ])
      go_wp2_with (fail)
      go_roundw
      case rel => exact ⟨r, x / 256, by omega, rfl, by go_num, HX', by omega, HC', HB'⟩
      case measure => simp [intOf]
    | zero =>
      have e : ((0 : Nat) : Int) - 1 = -1 := rfl
      rw [e]
      clear e
      go_wp2_with (fail)
      go_ret
      have h := HC.out
      rw [Nat.sub_zero] at h
      have e2 : ovr (List.replicate m 0) 0 (Jn.nml n m) = Jn.nml n m := by unfold ovr; simp [Jn.nml_len]
      rw [e2] at h
      have hg := HG.out
      refine ⟨_, rfl, ?_, ?_⟩
      · rw [hg]; exact own_cells h (Nat.le_refl _) (Jn.nml_len m n).symm (by rw [Jn.nml_len]; omega)
      · rw [hg]; exact HB.out

theorem ovr_shift {bs : By} {n off m i : Nat} (hi : i < m) (h : off + m ≤ bs.length) : (ovr bs (off + (m - i)) (Jn.nml n i)).set (off + (m - 1 - i)) (UInt8.ofNat (n / 256 ^ i)) = ovr bs (off + (m - (i + 1))) (Jn.nml n (i + 1)) := by
  rw [show off + (m - i) = off + (m - (i + 1)) + 1 by omega, show off + (m - 1 - i) = off + (m - (i + 1)) by omega, ovr_set _ (by rw [Jn.nml_len]; omega), Jn.nml_cons]
theorem cell_of {bs : By} {W : World} {B : Nat} {t : TypeId} (h : Cells W B t (bs.map encB)) {k : Nat} (hk : k < bs.length) : W.cell? ⟨B, k, none⟩ = some (.int .u8 ((bs.getD k 0).toNat : Int)) := by
  refine h.cell ?_
  rw [List.getElem?_map, List.getElem?_eq_getElem hk]
  simp [encB, List.getD, List.getElem?_eq_getElem hk]
set_option maxHeartbeats 2000000 in
theorem put_any {B off m cap n : Nat} {t : TypeId} {bs : By} {w : World} (hC : Cells w B t (bs.map encB)) (h : off + m ≤ bs.length) (hm : m ≤ 8) (hn : n < 18446744073709551616) :
    Calls Try.prog 64 #[.slice (some ⟨B, off, none⟩) m cap, .int .u64 n] w fun e w' => e = .returned (.tuple #[]) ∧ Cells w' B t ((ovr bs off (Jn.nml n m)).map encB) ∧ w.grownBy w' (some B) := by
  have HC0 := Lib.hid hC
  have HL := Lib.hid h
  have HG0 := Lib.hid (show w.grownBy w (some B) from ⟨rfl, rfl, rfl, Nat.le_refl _, fun _ _ _ => rfl⟩)
  clear hC h
  go_enter Try.func64, Try.ntmps64
  go_wp2_with (fail)
  go_loopw [7] (fun s7 wr => ∃ i : Nat, i ≤ m ∧ s7 = .int .i64 i ∧ Hid (Cells wr B t ((ovr bs (off + (m - i)) (Jn.nml n i)).map encB)) ∧ Hid (w.grownBy wr (some B))) (fun s7 _ => m - (intOf s7).toNat)
  case atStart =>
    refine ⟨0, Nat.zero_le _, rfl, Lib.hid ?_, HG0⟩
    show Cells w B t ((ovr bs (off + m) []).map encB)
    rw [ovr_nil HL.out]
    exact HC0.out
  case round =>
    clear HC0 HG0
    obtain ⟨i, hi, rfl, HC, HG⟩ := hrel
    by_cases hlt : i < m
    · have hd : decide ((i : Int) < (m : Int)) = true := decide_eq_true (by omega)
      have hov : (ovr bs (off + (m - i)) (Jn.nml n i)).length = bs.length := ovr_len (by rw [Jn.nml_len]; have := HL.out; omega)
      have hc := cell_of HC.out (k := off + (m - 1 - i)) (by rw [hov]; have := HL.out; omega)
      have hf := HC.out.frozen (off + (m - 1 - i))
      have hgl := HC.out.lt
      clear hov
      have HV := Lib.hid (show ((n : Int) / 2 ^ (8 * i) % 256) = (((UInt8.ofNat (n / 256 ^ i)).toNat : Nat) : Int) by
        rw [UInt8.toNat_ofNat', show 256 ^ i = 2 ^ (8 * i) by rw [Nat.pow_mul]]
        rw [Int.natCast_emod, Int.natCast_ediv, Int.natCast_pow]
        rfl)
      have HC' := Lib.hid (show Cells (wr.setCell ⟨B, off + (m - 1 - i), none⟩ (.int .u8 ((n : Int) / 2 ^ (8 * i) % 256))) B t ((ovr bs (off + (m - (i + 1))) (Jn.nml n (i + 1))).map encB) by
        rw [HV.out, ← ovr_shift hlt HL.out, ← enc_set]
        exact HC.out.set _)
      have HG' := Lib.hid (grown_trans HG.out (grown_set wr B (off + (m - 1 - i)) (.int .u8 ((n : Int) / 2 ^ (8 * i) % 256))))
      go_wp2_with (fail)
      go_roundw
      case rel => exact ⟨i + 1, by omega, by go_num, HC', HG'⟩
      case measure => simp [intOf]; omega
    · obtain rfl : i = m := by omega
      have hd : decide ((i : Int) < (i : Int)) = false := decide_eq_false (by omega)
      go_wp2_with (fail)
      refine bodyPost_end (v := .tuple #[]) (by simp [results, Try.results64, go_sem]) rfl ⟨rfl, ?_, HG.out⟩
      have h := HC.out
      rw [Nat.sub_self] at h
      exact h
end
section
open Go.RowKit
set_option linter.unusedVariables false
set_option linter.unusedSimpArgs false

theorem zero89 (w : World) : (zeroValue 89).run Try.prog w = .ok (.agg (Dv.zs.map encB).toArray) w := (zero_of_info (n := 128) (by kernel_rfl)).1 w
theorem ovr_mid {A B C xs : By} {o : Nat} (ho : A.length = o) (hx : B.length = xs.length) : ovr (A ++ (B ++ C)) o xs = A ++ (xs ++ C) := by
  unfold ovr
  rw [List.take_left' ho, ← List.drop_drop, List.drop_left' ho, List.drop_left' hx]
theorem set_mid {A C : By} {x y : UInt8} {o : Nat} (ho : A.length = o) : (A ++ (x :: C)).set o y = A ++ (y :: C) := by
  rw [List.set_append_right _ _ (by omega), show o - A.length = 0 by omega, List.set_cons_zero]
theorem enc_ovr (bs : By) (o : Nat) (xs : By) : splice (bs.map encB) o (xs.map encB) = (ovr bs o xs).map encB := by
  unfold splice ovr
  simp only [List.map_append, List.map_take, List.map_drop, List.length_map]
/-- what stands in the array on the way -/
def eF (A B C : By) (x y : UInt8) (D E : By) : By := A ++ (B ++ (C ++ (x :: y :: (D ++ E))))
theorem eF_len {A B C D E : By} {x y : UInt8} (h1 : A.length = 4) (h2 : B.length = 4) (h3 : C.length = 2) (h4 : D.length = 112) (h5 : E.length = 4) : (eF A B C x y D E).length = 128 := by
  unfold eF; simp only [List.length_append, List.length_cons, h1, h2, h3, h4, h5]
theorem eF_zs : Dv.zs = eF (List.replicate 4 0) (List.replicate 4 0) (List.replicate 2 0) 0 0 (List.replicate 112 0) (List.replicate 4 0) := by
  unfold Dv.zs eF; rfl
theorem eF_1 {A B C D E xs : By} {x y : UInt8} (h1 : A.length = 4) (hx : xs.length = 4) : ovr (eF A B C x y D E) 0 xs = eF xs B C x y D E := by
  unfold eF
  exact ovr_mid (A := []) rfl (by omega)
theorem eF_2 {A B C D E xs : By} {x y : UInt8} (h1 : A.length = 4) (h2 : B.length = 4) (h3 : C.length = 2) (hx : xs.length = 2) : ovr (eF A B C x y D E) 8 xs = eF A B xs x y D E := by
  unfold eF
  have := ovr_mid (A := A ++ B) (B := C) (C := x :: y :: (D ++ E)) (xs := xs) (o := 8) (by rw [List.length_append, h1, h2]) (by omega)
  simpa only [List.append_assoc] using this
theorem eF_3 {A B C D E : By} {x y z : UInt8} (h1 : A.length = 4) (h2 : B.length = 4) (h3 : C.length = 2) : (eF A B C x y D E).set 10 z = eF A B C z y D E := by
  unfold eF
  have := set_mid (A := A ++ (B ++ C)) (C := y :: (D ++ E)) (x := x) (y := z) (o := 10) (by simp only [List.length_append, h1, h2, h3])
  simpa only [List.append_assoc] using this
theorem eF_4 {A B C D E : By} {x y z : UInt8} (h1 : A.length = 4) (h2 : B.length = 4) (h3 : C.length = 2) : (eF A B C x y D E).set 11 z = eF A B C x z D E := by
  unfold eF
  have := set_mid (A := A ++ (B ++ (C ++ [x]))) (C := D ++ E) (x := y) (y := z) (o := 11) (by simp only [List.length_append, h1, h2, h3, List.length_cons, List.length_nil])
  simpa only [List.append_assoc, List.singleton_append] using this
theorem eF_5 {A B C E p : By} {x y : UInt8} (h1 : A.length = 4) (h2 : B.length = 4) (h3 : C.length = 2) (hp : p.length ≤ 112) : ovr (eF A B C x y (List.replicate 112 0) E) 12 p = eF A B C x y (p ++ List.replicate (112 - p.length) 0) E := by
  unfold eF
  have e : List.replicate 112 (0 : UInt8) = List.replicate p.length 0 ++ List.replicate (112 - p.length) 0 := by
    rw [List.replicate_append_replicate]; congr 1; omega
  rw [e]
  have := ovr_mid (A := A ++ (B ++ (C ++ [x, y]))) (B := List.replicate p.length 0) (C := List.replicate (112 - p.length) 0 ++ E) (xs := p) (o := 12) (by simp only [List.length_append, h1, h2, h3, List.length_cons, List.length_nil]) (by simp)
  simpa only [List.append_assoc, List.cons_append, List.nil_append] using this
theorem eF_6 {A B C D E xs : By} {x y : UInt8} (h1 : A.length = 4) (h2 : B.length = 4) (h3 : C.length = 2) (h4 : D.length = 112) (h5 : E.length = 4) (hx : xs.length = 4) : ovr (eF A B C x y D E) 124 xs = eF A B C x y D xs := by
  unfold eF
  have := ovr_mid (A := A ++ (B ++ (C ++ (x :: y :: D)))) (B := E) (C := []) (xs := xs) (o := 124) (by simp only [List.length_append, h1, h2, h3, h4, List.length_cons]) (by omega)
  simpa only [List.append_assoc, List.cons_append, List.append_nil] using this
theorem eF_7 {A B C D E xs : By} {x y : UInt8} (h1 : A.length = 4) (h2 : B.length = 4) (hx : xs.length = 4) : ovr (eF A B C x y D E) 4 xs = eF A xs C x y D E := by
  unfold eF
  exact ovr_mid h1 (by omega)
theorem eF_sec (g k : Nat) (kind : UInt8) (p : By) : eF (Jn.nml g 4) (Jn.nml (Jn.crc (Jn.body k kind p)) 4) (Jn.nml k 2) kind (UInt8.ofNat p.length) (p ++ List.replicate (112 - p.length) 0) (Jn.nml g 4) = Jn.sec g k kind p := by
  unfold eF Jn.sec Jn.body
  simp only [List.append_assoc, List.cons_append, List.nil_append]
theorem eF_bd {g k : Nat} {kind : UInt8} {p B : By} (hB : B.length = 4) (hp : p.length ≤ 112) : ((eF (Jn.nml g 4) B (Jn.nml k 2) kind (UInt8.ofNat p.length) (p ++ List.replicate (112 - p.length) 0) (Jn.nml g 4)).take 124).drop 8 = Jn.body k kind p := by
  have e : eF (Jn.nml g 4) B (Jn.nml k 2) kind (UInt8.ofNat p.length) (p ++ List.replicate (112 - p.length) 0) (Jn.nml g 4) = (Jn.nml g 4 ++ B) ++ (Jn.body k kind p ++ Jn.nml g 4) := by
    unfold eF Jn.body
    simp only [List.append_assoc, List.cons_append, List.nil_append]
  rw [List.drop_take, e, List.drop_left' (by rw [List.length_append, Jn.nml_len, hB]), List.take_left' (Jn.body_len hp)]
/-- a part of a row of bytes -/
theorem bytes_part {W : World} {B : Nat} {t : TypeId} {bs : By} (h : Cells W B t (bs.map encB)) {i j c : Nat} (hij : i ≤ j) (hj : j ≤ bs.length) (hc : j - i ≤ c) : IsBytes W (.slice (some ⟨B, i, none⟩) (j - i) c) ((bs.take j).drop i) := by
  have hl : ((bs.take j).drop i).length = j - i := by rw [List.length_drop, List.length_take]; omega
  refine ⟨some ⟨B, i, none⟩, c, by rw [hl], by rw [hl]; exact hc, fun _ => ⟨B, i, rfl, h.lt, fun q hq => ?_⟩⟩
  rw [List.length_map, hl] at hq
  rw [h.cell (List.getElem?_eq_getElem (by rw [List.length_map]; omega))]
  simp
theorem Cells.grownSame {W W' : World} {B B' : Nat} {t : TypeId} {cs : List Value} (h : Cells W B t cs) (hg : W.grownBy W' (some B')) (hne : B ≠ B') : Cells W' B t cs := grownK h hg hne
theorem below_put {n : Nat} {w X X' : World} {B : Nat} (h : Below n w X) (hn : n ≤ w.heap.size) (hg : X.grownBy X' (some B)) (hB : n ≤ B) : Below n w X' := h.grown hg (Nat.le_trans hn h.size) (fun k hk => by injection hk with hk; omega)
set_option maxHeartbeats 4000000 in
set_option maxRecDepth 100000 in
theorem encode_any {g k : Nat} {kind : UInt8} {v : Value} {p : By} {w : World} (hv : IsBytes w v p) (hl : p.length ≤ 112) (hg : g < 18446744073709551616) (hk : k ≤ 65535) :
    Calls Try.prog 44 #[.int .u64 g, .int .i64 k, .int .u8 (kind.toNat : Int), v] w fun e w' => ∃ A c, e = .returned (.slice A 128 c) ∧ IsBytes w' (.slice A 128 c) (Jn.sec g k kind p) ∧ Below w.heap.size w w' := by
  have HV := Lib.hid hv
  obtain ⟨Ap, cp, rfl, hcp, _⟩ := id hv
  clear hv
  obtain ⟨B, hB⟩ : ∃ B, w.heap.size = B := ⟨_, rfl⟩
  have hz := zero89
  have HC := Lib.hid (Cells.new w 89 (Dv.zs.map encB))
  have HBL := Lib.hid (al1 w (.cells (Dv.zs.map encB).toArray 89))
  have HBs := Lib.hid hB
  rw [hB] at HC HBL
  have hkk : (k : Int) ≤ 65535 := by omega
  go_enter Try.func44, Try.ntmps44
  go_upto_region 2 with (fail)
  obtain ⟨W0, hW0⟩ : ∃ W, w.alloc (.cells (Dv.zs.map encB).toArray 89) = W := ⟨_, rfl⟩
  rw [hW0] at HC HBL
  simp only [hW0, hB]
  clear hW0 hz hB
  replace HC := Lib.hid (show Cells W0 B 89 ((eF (List.replicate 4 0) (List.replicate 4 0) (List.replicate 2 0) 0 0 (List.replicate 112 0) (List.replicate 4 0)).map encB) by rw [← eF_zs]; exact HC.out)
  go_wp2_with (fail)
  refine (put_any (off := 0) (m := 4) HC.out (by rw [eF_len] <;> simp) (by omega) hg).mono ?_
  rintro e w1 ⟨rfl, hc, hgr⟩
  rw [eF_1 (by simp) (Jn.nml_len 4 g)] at hc
  replace HBL := Lib.hid (below_put HBL.out (Nat.le_of_eq HBs.out.symm) hgr (Nat.le_refl _))
  replace HC := Lib.hid hc
  clear hc hgr
  go_wp2_with (fail)
  refine (put_any (off := 8) (m := 2) (n := k) HC.out (by rw [eF_len] <;> simp [Jn.nml_len]) (by omega) (by omega)).mono ?_
  rintro e w2 ⟨rfl, hc, hgr⟩
  rw [eF_2 (Jn.nml_len 4 g) (by simp) (by simp) (Jn.nml_len 2 k)] at hc
  replace HBL := Lib.hid (below_put HBL.out (Nat.le_of_eq HBs.out.symm) hgr (Nat.le_refl _))
  replace HC := Lib.hid hc
  clear hc hgr
  have hp2 : (p.length : Int) ≤ 112 := by omega
  have HL := Lib.hid (show (eF (Jn.nml g 4) (List.replicate 4 0) (Jn.nml k 2) 0 0 (List.replicate 112 0) (List.replicate 4 0)).length = 128 from eF_len (Jn.nml_len 4 g) (by simp) (Jn.nml_len 2 k) (by simp) (by simp))
  have c10 := cell_of HC.out (k := 10) (by rw [HL.out]; omega)
  have c11 := cell_of HC.out (k := 11) (by rw [HL.out]; omega)
  have f10 := HC.out.frozen 10
  have f11 := HC.out.frozen 11
  have hBl := HC.out.lt
  go_upto_region 5 with (fail)
  clear c10 c11 f10 f11 hBl HL
  have HP8 := Lib.hid (show Value.int .u8 (p.length : Int) = encB (UInt8.ofNat p.length) by unfold encB; rw [UInt8.toNat_ofNat']; congr 1; omega)
  have HC4 := Lib.hid (show Cells ((w2.setCell ⟨B, 10, none⟩ (.int .u8 (kind.toNat : Int))).setCell ⟨B, 11, none⟩ (.int .u8 (p.length : Int))) B 89 ((eF (Jn.nml g 4) (List.replicate 4 0) (Jn.nml k 2) kind (UInt8.ofNat p.length) (List.replicate 112 0) (List.replicate 4 0)).map encB) by
    have h := (HC.out.set (k := 10) (encB kind)).set (k := 11) (encB (UInt8.ofNat p.length))
    rw [enc_set, enc_set, eF_3 (Jn.nml_len 4 g) (by simp) (Jn.nml_len 2 k), eF_4 (Jn.nml_len 4 g) (by simp) (Jn.nml_len 2 k), ← HP8.out] at h
    exact h)
  replace HBL := Lib.hid ((HBL.out.setCell (p := ⟨B, 10, none⟩) (Nat.le_refl _) (.int .u8 (kind.toNat : Int))).setCell (p := ⟨B, 11, none⟩) (Nat.le_refl _) (.int .u8 (p.length : Int)))
  clear HC HP8
  obtain ⟨w3, hw3⟩ : ∃ X, (w2.setCell ⟨B, 10, none⟩ (.int .u8 (kind.toNat : Int))).setCell ⟨B, 11, none⟩ (.int .u8 (p.length : Int)) = X := ⟨_, rfl⟩
  rw [hw3] at HC4 HBL
  simp only [hw3]
  clear hw3
  have HSRC := Lib.hid (src_of (HV.out.upb (show Below w.heap.size w w3 by rw [HBs.out]; exact HBL.out)))
  have HCN := Lib.hid (show (p.map encB).length = Nat.min p.length 116 by rw [List.length_map]; exact (Nat.min_eq_left (by omega)).symm)
  have HCF := Lib.hid (show 12 + (p.map encB).length ≤ ((eF (Jn.nml g 4) (List.replicate 4 0) (Jn.nml k 2) kind (UInt8.ofNat p.length) (List.replicate 112 0) (List.replicate 4 0)).map encB).length by
    rw [List.length_map, List.length_map, eF_len (Jn.nml_len 4 g) (by simp) (Jn.nml_len 2 k) (by simp) (by simp)]; omega)
  have HC1 := Lib.hid (show ∀ v ∈ p.map encB, v.oneCell' = true by intro v hv; simp only [List.mem_map] at hv; obtain ⟨y, _, rfl⟩ := hv; rfl)
  go_upto_region 6 with (refine wpList_copy_splice rfl (.tmp 23) (.tmp 24) 35 35 rfl 5 Try.underlying35 (by kernel_rfl) _ _ 116 116 p.length cp rfl rfl B 12 _ 89 HC4.out (p.map encB) HCN.out (fun hpos => ⟨rfl, HSRC.out hpos⟩) HCF.out HC1.out B w HBL.out (Nat.le_refl _) ?_; intro w4 hd4 hb4; have HD4 := Lib.hid hd4.out; have HB4 := Lib.hid hb4; clear hd4 hb4)
  have HC5 := Lib.hid (show Cells w4 B 89 ((eF (Jn.nml g 4) (List.replicate 4 0) (Jn.nml k 2) kind (UInt8.ofNat p.length) (p ++ List.replicate (112 - p.length) 0) (List.replicate 4 0)).map encB) by
    have h := HD4.out
    rw [enc_ovr, eF_5 (Jn.nml_len 4 g) (by simp) (Jn.nml_len 2 k) hl] at h
    exact h)
  clear HD4 HC4 HSRC HCN HCF HC1 HBL
  have HDL := Lib.hid (show (p ++ List.replicate (112 - p.length) 0).length = 112 by simp; omega)
  have HL5 := Lib.hid (show (eF (Jn.nml g 4) (List.replicate 4 0) (Jn.nml k 2) kind (UInt8.ofNat p.length) (p ++ List.replicate (112 - p.length) 0) (List.replicate 4 0)).length = 128 from eF_len (Jn.nml_len 4 g) (by simp) (Jn.nml_len 2 k) HDL.out (by simp))
  go_wp2_with (fail)
  refine (put_any (off := 124) (m := 4) HC5.out (by rw [HL5.out]; omega) (by omega) hg).mono ?_
  rintro e w5 ⟨rfl, hc, hgr⟩
  rw [eF_6 (Jn.nml_len 4 g) (by simp) (Jn.nml_len 2 k) HDL.out (by simp) (Jn.nml_len 4 g)] at hc
  have HB5 := Lib.hid (below_put HB4.out (Nat.le_of_eq HBs.out.symm) hgr (Nat.le_refl _))
  have HC6 := Lib.hid hc
  clear hc hgr HC5 HL5 HB4
  have HL6 := Lib.hid (show (eF (Jn.nml g 4) (List.replicate 4 0) (Jn.nml k 2) kind (UInt8.ofNat p.length) (p ++ List.replicate (112 - p.length) 0) (Jn.nml g 4)).length = 128 from eF_len (Jn.nml_len 4 g) (by simp) (Jn.nml_len 2 k) HDL.out (Jn.nml_len 4 g))
  have HBY := Lib.hid (show IsBytes w5 (.slice (some ⟨B, 8, none⟩) 116 120) (Jn.body k kind p) by
    have h := bytes_part HC6.out (i := 8) (j := 124) (c := 120) (by omega) (by rw [HL6.out]; omega) (by omega)
    rw [eF_bd (by simp) hl] at h
    exact h)
  obtain ⟨cr, hcr⟩ : ∃ c, Jn.crc (Jn.body k kind p) = c := ⟨_, rfl⟩
  have hcl : cr < 4294967296 := by rw [← hcr]; exact Jn.crc_lt _
  have HCR := Lib.hid hcr
  have HBL := Lib.hid (Jn.body_len (k := k) (kind := kind) hl)
  clear hcr
  obtain ⟨bo, hbo⟩ : ∃ b, Jn.body k kind p = b := ⟨_, rfl⟩
  rw [hbo] at HBY HCR HBL
  have HBO := Lib.hid hbo
  clear hbo
  go_wp2_with (fail)
  have HSd := Lib.hid (show Below w5.heap.size w5 w5.drew from below_drewN (Below.refl _ _) 1)
  refine wp_region_noPanic ?_
  refine wp_region_U 4 (fun X => Below w5.heap.size w5 X) (by kernel_rfl) ?_
  refine wpAnyU_takeD (i := 0) (v := .slice (some ⟨B, 4, none⟩) 4 124) 29 rfl rfl (by kernel_rfl) (by kernel_rfl) (by kernel_rfl) (by kernel_rfl) (by kernel_rfl) (by kernel_rfl) (fun _ _ _ h => h) (.inl ⟨rfl, fun X hX => ?_⟩) HSd.out ?_
  · go_simp
  refine wpAnyU_take0D (i := 1) (v := .slice (some ⟨B, 8, none⟩) 116 120) 30 rfl rfl (by kernel_rfl) (by kernel_rfl) (by kernel_rfl) (by kernel_rfl) (fun _ _ _ h => h) (.inl ⟨rfl, fun X hX => by go_simp⟩) (fun _ => HSd.out) ?_
  refine wpAnyU_call (i := 2) 31 (by kernel_rfl) rfl rfl (by simp [Region.wanted, yielded, Act.put]) (.func 65) #[.tmp 30] _ rfl 65 #[] rfl #[.slice (some ⟨B, 8, none⟩) 116 120] (by simp [Act.eval, Act.put]) (enters_of Try.func65 (by kernel_rfl) rfl) (sum_any (bs := bo) (HBY.out.upb HSd.out) (by rw [HBL.out]; omega)) ?_
  rintro e wy ⟨rfl, rfl⟩
  rw [HCR.out]
  refine ⟨_, rfl, HSd.out, ?_⟩
  refine wpAnyU_takeD (i := 3) (v := .int .u64 cr) 32 rfl rfl (by kernel_rfl) (by kernel_rfl) (by kernel_rfl) (by kernel_rfl) (by kernel_rfl) (by kernel_rfl) (fun _ _ _ h => h) (.inl ⟨rfl, fun X hX => ?_⟩) HSd.out ?_
  · go_simp; rw [IntKind.wrap_u64]; omega
  refine wpAnyU_one (i := 4) (by kernel_rfl) rfl (fun K hK => ?_)
  refine step_fn rfl (.func 64) #[.tmp 29, .tmp 32] _ rfl 64 #[] rfl #[.slice (some ⟨B, 4, none⟩) 4 124, .int .u64 cr] (by simp [Act.eval, Act.put]) (enters_of Try.func64 (by kernel_rfl) rfl) (put_any (off := 4) (m := 4) (n := cr) (HC6.out.upb HSd.out) (by rw [HL6.out]; omega) (by omega) (by omega)) ?_
  rintro e wz ⟨rfl, hc, hgr⟩
  refine ⟨_, rfl, hK.out _ _ (fun h => absurd h (by decide)) (fun _ => ?_)⟩
  clear hK K
  refine wpAnyU_done (by kernel_rfl) (NoPanic.normal ?_) _
  rw [eF_7 (Jn.nml_len 4 g) (by simp) (Jn.nml_len 4 cr), ← HCR.out, ← HBO.out, eF_sec] at hc
  have HC7 := Lib.hid hc
  have HB7 := Lib.hid (below_put (below_drewN HB5.out 1) (Nat.le_of_eq HBs.out.symm) hgr (Nat.le_refl _))
  clear hc hgr
  go_wp2_with (fail)
  go_ret
  refine ⟨_, _, rfl, ?_, by rw [HBs.out]; exact HB7.out⟩
  have h := bytes_part HC7.out (i := 0) (j := 128) (c := 128) (by omega) (by rw [Jn.sec_len hl]; omega) (by omega)
  rw [List.drop_zero, List.take_of_length_le (by rw [Jn.sec_len hl]; omega)] at h
  exact h
end
end Go.Proofs.Ytkcnanclpkongaa

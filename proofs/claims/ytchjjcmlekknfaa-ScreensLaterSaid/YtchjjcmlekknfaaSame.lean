/- Walk of the comparison of two lists in the reference. -/
import Derived.Test.YtchjjcmlekknfaaBase
namespace Go.Proofs.Ytchjjcmlekknfaa
open Go.RowKit

theorem same_of_take {xs ys : List Int} (h1 : xs.length ≤ ys.length) (h2 : ys.length ≤ xs.length) {k : Nat} (hk : xs.length ≤ k) (h : xs.take k = ys.take k) : xs = ys := by
  rwa [List.take_of_length_le hk, List.take_of_length_le (by omega)] at h

set_option maxHeartbeats 400000 in
theorem sameInts_any (v u : Value) (xs ys : List Int) (w : World) (hv : IsInts w v xs) (hu : IsInts w u ys) (hl : xs.length ≤ 9223372036854775807) (hl2 : ys.length ≤ 9223372036854775807) :
    Calls Try.prog 13 #[v, u] w fun e w' => e = .returned (.bool (decide (xs = ys))) ∧ ∃ k, w' = w.drewN k := by
  obtain ⟨A, c, rfl, hr⟩ := hv
  obtain ⟨A2, c2, rfl, hr2⟩ := hu
  have HR := Lib.hid hr
  have HR2 := Lib.hid hr2
  clear hr hr2
  by_cases hne : xs.length = ys.length
  · have h1 : xs.length ≤ ys.length := by omega
    have h2 : ys.length ≤ xs.length := by omega
    clear hne
    go_enter Try.func13, Try.ntmps13
    go_wp2
    go_loopw [5] (fun i wr => ∃ k : Nat, k ≤ xs.length ∧ i = .int .i64 k ∧ Hid (xs.take k = ys.take k) ∧ ∃ q, wr = w.drewN q) (fun i _ => xs.length - (intOf i).toNat)
    case atStart => exact ⟨0, Nat.zero_le _, rfl, rfl, 0, rfl⟩
    case round =>
      obtain ⟨k, hk, rfl, H, q, rfl⟩ := hrel
      by_cases hlt : k < xs.length
      · obtain ⟨b, off, rfl, _, hc⟩ := ints_at HR.out hlt
        obtain ⟨b2, off2, rfl, _, hc2⟩ := ints_at HR2.out (show k < ys.length by omega)
        by_cases he : xs[k] = ys[k]
        · have hb : (xs[k] != ys[k]) = false := by simpa using he
          have HE := Lib.hid he
          clear he
          go_wp2
          go_quiet (fail)
          go_wp2
          go_roundw
          case rel => exact ⟨k + 1, by omega, by go_num, by show xs.take (k + 1) = ys.take (k + 1); rw [List.take_succ_eq_append_getElem hlt, List.take_succ_eq_append_getElem (by omega), H.out, HE.out], _, rfl⟩
          case measure => first | omega | (simp [intOf]; omega)
        · have hb : (xs[k] != ys[k]) = true := by simpa using he
          go_wp2
          go_quiet (fail)
          go_wp2
          go_ret
          exact ⟨ret_bool (by symm; simp; rintro rfl; exact he rfl), _, World.drewN_drewN ..⟩
      · go_wp2
        go_ret
        exact ⟨ret_bool (by symm; simpa using same_of_take h1 h2 (by omega) H.out), _, rfl⟩
  · have hb : ((xs.length : Int) != (ys.length : Int)) = true := by simp; omega
    go_enter Try.func13, Try.ntmps13
    go_wp2
    go_ret
    exact ⟨ret_bool (by symm; simp; rintro rfl; exact hne rfl), 0, rfl⟩


end Go.Proofs.Ytchjjcmlekknfaa

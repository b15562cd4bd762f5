/- Walks of the small functions of layer 44 and of its reference. -/
import Derived.Test.YtagbdjdphghflaaProg
import Derived.Test.YtagbdjdphghflaaBase
import Derived.Test.YtagbdjdphghflaaPlain
import Derived.Deep.QuietTactic
import Derived.BigQuiet
namespace Go.Proofs.Ytagbdjdphghflaa
open Go.RowKit

theorem quiet_left {P : Program} {f : FuncId} {args : Array Value} {w : World} {n : Nat} {v : Value}
    (h : Calls P f args (w.drewN n) fun e w' => e = .returned v ∧ w.drewN n = w') : Calls P f args (w.drewN n) fun e w'' => e = .returned v ∧ ∃ m, w'' = w.drewN m :=
  h.mono fun _ _ ⟨he, hm⟩ => ⟨he, n, hm.symm⟩
theorem IsInts.drewN {w : World} {v : Value} {xs : List Int} (h : IsInts w v xs) (n : Nat) : IsInts (w.drewN n) v xs := h

def Small (xs : List Int) : Prop := xs.length ≤ 100 ∧ ∀ x ∈ xs, 0 ≤ x ∧ x ≤ 1099511627776

set_option maxHeartbeats 400000 in
theorem given_any (v : Value) (xs : List Int) (n : Int) (w : World) (hv : IsInts w v xs) (hS : Small xs) (hn : 0 ≤ n) (hn2 : n ≤ 1099511627777) :
    Calls Try.prog 21 #[v, .int .i64 n] w fun e w' => e = .returned (.int .i64 (Pl.sumMin n xs)) ∧ w = w' := by
  obtain ⟨A, c, rfl, hr⟩ := hv
  have hl : xs.length ≤ 100 := hS.1
  go_enter Try.func21, Try.ntmps21
  go_wp2
  go_loop [4, 9] (fun s i => ∃ k : Nat, k ≤ xs.length ∧ i = .int .i64 k ∧ s = .int .i64 (Pl.sumMin n (xs.take k))) (fun _ i => xs.length - (intOf i).toNat)
  case atStart => exact ⟨0, Nat.zero_le _, rfl, rfl⟩
  case round =>
    obtain ⟨k, hk, rfl, rfl⟩ := hrel
    by_cases hlt : k < xs.length
    · obtain ⟨b, off, rfl, _, hc⟩ := ints_at hr hlt
      have h3 := Pl.sumMin_bd n (xs.take k) (fun x hx => hS.2 x (List.mem_of_mem_take hx)) hn
      have h3' : (xs.take k).length ≤ 100 := by simp; omega
      have h4 := hS.2 xs[k] (List.getElem_mem hlt)
      have H5 := Lib.hid (Pl.sumMin_take n xs k hlt)
      have h6 : Pl.sumMin n (xs.take k) ≤ 109951162777600 := by omega
      clear hr hS
      go_wp2
      all_goals
        go_round
        case rel => exact ⟨k+1, by omega, by go_num, by rw [H5.out]; congr 1; omega⟩
        case measure => simp [intOf]; omega
    · go_wp2
      go_ret
      exact ⟨ret_int (by rw [List.take_of_length_le (by omega)]), rfl⟩


set_option maxHeartbeats 400000 in
theorem level1_any (n c : Int) (bd bc : Nat) (v : Value) (xs : List Int) (w : World) (hd : w.cell? ⟨bd, 0, none⟩ = some v) (hc : w.cell? ⟨bc, 0, none⟩ = some (.int .i64 c))
    (hv : IsInts w v xs) (hS : Small xs) (hn : 0 ≤ n) (hn2 : n ≤ 1099511627777) :
    Calls Try.prog 30 #[.int .i64 n, .pointer (some ⟨bd, 0, none⟩), .pointer (some ⟨bc, 0, none⟩)] w fun e w' => e = .returned (.bool (decide (c < Pl.sumMin n xs))) ∧ ∃ k, w' = w.drewN k := by
  have HV := Lib.hid hv
  have HS := Lib.hid hS
  obtain ⟨A, cap, rfl, hr⟩ := hv
  clear hr hS
  go_enter Try.func30, Try.ntmps30
  go_wp2
  go_quiet ((go_at_call 21; exact quiet_left (given_any _ xs _ _ (IsInts.drewN HV.out _) HS.out hn hn2)))
  go_wp2
  go_ret
  exact ⟨rfl, _, rfl⟩

set_option maxHeartbeats 400000 in
theorem search_any (lim c : Int) (bd bc : Nat) (v : Value) (xs : List Int) (w : World) (hd : w.cell? ⟨bd, 0, none⟩ = some v) (hc : w.cell? ⟨bc, 0, none⟩ = some (.int .i64 c))
    (hv : IsInts w v xs) (hS : Small xs) (hl : 0 ≤ lim) (hl2 : lim ≤ 1099511627777) :
    Calls Try.prog 29 #[.int .i64 lim, .func (.func 30) #[] #[.pointer (some ⟨bd, 0, none⟩), .pointer (some ⟨bc, 0, none⟩)]] w fun e w' =>
      (∃ low : Int, e = .returned (.int .i64 low) ∧ 0 ≤ low ∧ low ≤ lim ∧ (∀ m, 0 ≤ m → m < low → Pl.sumMin m xs ≤ c) ∧ (low = lim ∨ c < Pl.sumMin low xs)) ∧ ∃ k, w' = w.drewN k := by
  have HV := Lib.hid hv
  have HS := Lib.hid hS
  have Hd := Lib.hid hd
  have Hc := Lib.hid hc
  clear hv hS hd hc
  go_enter Try.func29, Try.ntmps29
  go_wp2
  go_loopw [0, 5] (fun l o wr => ∃ a b : Int, o = .int .i64 a ∧ l = .int .i64 b ∧ 0 ≤ a ∧ a ≤ b ∧ b ≤ lim ∧ Hid (∀ m, 0 ≤ m → m < a → Pl.sumMin m xs ≤ c) ∧ Hid (b = lim ∨ c < Pl.sumMin b xs) ∧ ∃ k, wr = w.drewN k)
    (fun l o _ => (intOf l - intOf o).toNat)
  case atStart => exact ⟨0, lim, rfl, rfl, by omega, by omega, by omega, fun m h1 h2 => by omega, .inl rfl, 0, rfl⟩
  case round =>
    obtain ⟨a, b, rfl, rfl, h0, hab, hbl, H1, H2, q, rfl⟩ := hrel
    by_cases hlt : a < b
    · by_cases hh : c < Pl.sumMin ((a + b) / 2) xs
      · go_wp2_with (go_at_call 30; refine (level1_any ((a + b) / 2) c bd bc v xs (w.drewN q) Hd.out Hc.out HV.out HS.out (by omega) (by omega)).mono ?_; rintro e w' ⟨rfl, q2, rfl⟩)
        go_roundw
        case rel => exact ⟨a, (a + b) / 2, rfl, rfl, h0, by omega, by omega, H1, .inr hh, _, rfl⟩
        case measure => simp [intOf]; omega
      · go_wp2_with (go_at_call 30; refine (level1_any ((a + b) / 2) c bd bc v xs (w.drewN q) Hd.out Hc.out HV.out HS.out (by omega) (by omega)).mono ?_; rintro e w' ⟨rfl, q2, rfl⟩)
        go_roundw
        case rel => exact ⟨(a + b) / 2 + 1, b, rfl, rfl, by omega, by omega, by omega, fun m h1 h2 => by have := Pl.sumMin_mono m ((a + b) / 2) (by omega) xs; omega, H2, _, rfl⟩
        case measure => simp [intOf]; omega
    · go_wp2
      go_ret
      refine ⟨⟨a, rfl, h0, by omega, H1, ?_⟩, _, rfl⟩
      obtain rfl : a = b := by omega
      exact H2

end Go.Proofs.Ytagbdjdphghflaa

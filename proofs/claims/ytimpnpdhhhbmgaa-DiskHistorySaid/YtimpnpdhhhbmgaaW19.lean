/- Walks of bits.Mul64 and Mul, of slices.Repeat. -/
import Derived.Test.YtimpnpdhhhbmgaaW18
import Derived.Laws.Bits64b
namespace Go.Proofs.Ytimpnpdhhhbmgaa
open Go.RowKit
set_option linter.unusedVariables false
set_option linter.unusedSimpArgs false

theorem band_n {n : Nat} (hn : n ≤ 4096) : bits BinOp.and IntKind.u64 (n : Int) 4294967295 = (n : Int) := by
  have h := bits_and_u64_nat n 4294967295 (by omega) (by omega)
  have h2 : n &&& 4294967295 = n := by
    have := Nat.and_two_pow_sub_one_eq_mod n 32
    rw [show (2 : Nat) ^ 32 - 1 = 4294967295 from rfl] at this
    rw [this]
    exact Nat.mod_eq_of_lt (by omega)
  rw [h2] at h
  exact h

set_option maxHeartbeats 1000000 in
theorem mul64_one {n : Nat} {w : World} (hn : n ≤ 4096) : Calls Try.prog 48 #[.int .u64 1, .int .u64 n] w fun e w' => e = .returned (.tuple #[.int .u64 0, .int .u64 n]) ∧ w = w' := by
  have h1 : bits BinOp.and IntKind.u64 1 4294967295 = 1 := band_n (n := 1) (by omega)
  have h0 : bits BinOp.and IntKind.u64 0 4294967295 = 0 := band_n (n := 0) (by omega)
  have h2 := band_n hn
  have h3 : (n : Int) / 4294967296 = 0 := by omega
  have h4 : IntKind.u64.wrap (n : Int) = (n : Int) := by rw [IntKind.wrap_u64]; omega
  have h5 : IntKind.u64.wrap (0 : Int) = 0 := by rw [IntKind.wrap_u64]; omega
  have h6 : (1 : Int) * (n : Int) = (n : Int) := by omega
  clear hn
  go_enter Try.func48, Try.ntmps48
  go_wp2_with (fail)
  go_ret2
  exact ⟨rfl, rfl⟩

set_option maxHeartbeats 1000000 in
theorem mul_one {n : Nat} {w : World} (hn : n ≤ 4096) : Calls Try.prog 42 #[.int .u64 1, .int .u64 n] w fun e w' => e = .returned (.tuple #[.int .u64 0, .int .u64 n]) ∧ w = w' := by
  have h4 : IntKind.u64.wrap (n : Int) = (n : Int) := by rw [IntKind.wrap_u64]; omega
  go_enter Try.func42, Try.ntmps42
  go_wp2_with (fail)
  refine (mul64_one hn).mono ?_
  rintro e w' ⟨rfl, rfl⟩
  go_wp2_with (fail)
  go_ret2
  exact ⟨rfl, rfl⟩
end Go.Proofs.Ytimpnpdhhhbmgaa

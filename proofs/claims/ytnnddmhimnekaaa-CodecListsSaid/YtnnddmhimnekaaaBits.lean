/- Walks of unsigned and signed, in the program and in the reference; bits. -/
import Derived.Test.YtnnddmhimnekaaaWords
import Derived.Test.YtnnddmhimnekaaaPlain2
import Derived.Laws.BitsAllLaws
import Derived.Laws.BitsLemmas
namespace Go.Proofs.Ytnnddmhimnekaaa
open Go.RowKit
set_option linter.unusedVariables false
set_option linter.unusedSimpArgs false

theorem uns_pos {n : Int} (h : 0 ≤ n) : (Cd.uns n : Int) = 2 * n := by unfold Cd.uns; rw [if_pos h]; omega
theorem uns_neg {n : Int} (h : n < 0) : (Cd.uns n : Int) = -2 * n - 1 := by unfold Cd.uns; rw [if_neg (by omega)]; omega
theorem uns_lt {n : Int} (h1 : -9223372036854775808 ≤ n) (h2 : n ≤ 9223372036854775807) : Cd.uns n < 18446744073709551616 := by
  by_cases h : 0 ≤ n
  · have := uns_pos h; omega
  · have := uns_neg (n := n) (by omega); omega

theorem ofInt_nat64 (a : Nat) (ha : a < 18446744073709551616) : (BitVec.ofInt 64 (a : Int)).toNat = a := by
  rw [BitVec.ofInt_natCast, BitVec.toNat_ofNat]; exact Nat.mod_eq_of_lt (by omega)
theorem xor_ones_u64 (a : Nat) (ha : a < 18446744073709551616) : bits .xor .u64 (a : Int) 18446744073709551615 = 18446744073709551615 - (a : Int) := by
  show IntKind.u64.wrap ((BitVec.ofInt 64 (a : Int) ^^^ BitVec.ofInt 64 18446744073709551615).toNat : Int) = _
  rw [show BitVec.ofInt 64 18446744073709551615 = BitVec.allOnes 64 by decide, BitVec.xor_allOnes, BitVec.toNat_not, ofInt_nat64 a ha, IntKind.wrap_u64]
  omega
theorem xor_zero_u64 (a : Nat) (ha : a < 18446744073709551616) : bits .xor .u64 (a : Int) 0 = (a : Int) := by
  have := u64_xor_nat a 0 ha (by omega)
  simpa using this
theorem xor_zero_i64 (a : Nat) (ha : a < 9223372036854775808) : bits .xor .i64 (a : Int) 0 = (a : Int) := by
  show IntKind.i64.wrap ((BitVec.ofInt 64 (a : Int) ^^^ BitVec.ofInt 64 0).toNat : Int) = _
  rw [show BitVec.ofInt 64 0 = 0#64 by decide, BitVec.xor_zero, ofInt_nat64 a (by omega), IntKind.wrap_i64]
  omega
theorem xor_neg_i64 (a : Nat) (ha : a < 9223372036854775808) : bits .xor .i64 (a : Int) (-1) = -(a : Int) - 1 := by
  show IntKind.i64.wrap ((BitVec.ofInt 64 (a : Int) ^^^ BitVec.ofInt 64 (-1)).toNat : Int) = _
  rw [show BitVec.ofInt 64 (-1) = BitVec.allOnes 64 by decide, BitVec.xor_allOnes, BitVec.toNat_not, ofInt_nat64 a (by omega), IntKind.wrap_i64]
  omega
theorem and_one_u64 (u : Nat) (h : u < 18446744073709551616) : bits .and .u64 (u : Int) 1 = ((u % 2 : Nat) : Int) := by
  have := u64_and_nat u 1 h (by omega)
  rw [Nat.and_one_is_mod] at this
  exact this

/-- the integer with an unsigned form -/
def sgn (u : Nat) : Int := if u % 2 = 0 then ((u / 2 : Nat) : Int) else -((u / 2 : Nat) : Int) - 1
theorem sgn_uns (n : Int) : sgn (Cd.uns n) = n := by
  unfold sgn
  by_cases h : 0 ≤ n
  · have := uns_pos h
    rw [if_pos (by omega)]; omega
  · have := uns_neg (n := n) (by omega)
    rw [if_neg (by omega)]; omega
theorem uns_sgn (u : Nat) : Cd.uns (sgn u) = u := by
  unfold sgn
  by_cases h : u % 2 = 0
  · rw [if_pos h]
    have := uns_pos (n := ((u / 2 : Nat) : Int)) (by omega)
    omega
  · rw [if_neg h]
    have := uns_neg (n := -((u / 2 : Nat) : Int) - 1) (by omega)
    omega

set_option maxHeartbeats 1000000 in
theorem unsigned_any (n : Int) (w : World) (h1 : -9223372036854775808 ≤ n) (h2 : n ≤ 9223372036854775807) :
    Calls Try.prog 39 #[.int .i64 n] w fun e w' => e = .returned (.int .u64 (Cd.uns n : Nat)) ∧ w = w' := by
  by_cases h : 0 ≤ n
  · have HU := Lib.hid (uns_pos h)
    have HX := Lib.hid (show bits .xor .u64 (n * 2) (n / 9223372036854775808) = n * 2 by
      have e := xor_zero_u64 (n * 2).toNat (by omega)
      rw [show (((n * 2).toNat : Nat) : Int) = n * 2 by omega] at e
      rw [show n / 9223372036854775808 = 0 by omega]; exact e)
    go_enter Try.func39, Try.ntmps39
    go_wp2_with (fail)
    go_ret
    exact ⟨ret_int (by rw [HU.out]; show bits .xor .u64 (n * 2) (n / 9223372036854775808) = _; rw [HX.out]; omega), rfl⟩
  · have HU := Lib.hid (uns_neg (n := n) (by omega))
    have HX := Lib.hid (show bits .xor .u64 (IntKind.u64.wrap (IntKind.u64.wrap n * 2)) (IntKind.u64.wrap (n / 9223372036854775808)) = -2 * n - 1 by
      have e := xor_ones_u64 (2 * n + 18446744073709551616).toNat (by omega)
      rw [show (((2 * n + 18446744073709551616).toNat : Nat) : Int) = 2 * n + 18446744073709551616 by omega] at e
      rw [IntKind.wrap_u64, IntKind.wrap_u64, IntKind.wrap_u64, show n / 9223372036854775808 = -1 by omega, show (n % 18446744073709551616 * 2) % 18446744073709551616 = 2 * n + 18446744073709551616 by omega,
        show (-1 : Int) % 18446744073709551616 = 18446744073709551615 by omega, e]
      omega)
    go_enter Try.func39, Try.ntmps39
    go_wp2_with (fail)
    go_ret
    exact ⟨ret_int (by rw [HU.out]; exact HX.out), rfl⟩

set_option maxHeartbeats 1000000 in
theorem signed_any (u : Nat) (w : World) (h : u < 18446744073709551616) :
    Calls Try.prog 45 #[.int .u64 (u : Int)] w fun e w' => e = .returned (.int .i64 (sgn u)) ∧ w = w' := by
  have HX := Lib.hid (show bits .xor .i64 ((u : Int) / 2) (wrap64 (-wrap64 (bits .and .u64 (u : Int) 1))) = sgn u by
    rw [and_one_u64 u h]
    have e2 : ((u : Int) / 2) = ((u / 2 : Nat) : Int) := by omega
    unfold sgn
    by_cases hp : u % 2 = 0
    · rw [hp, if_pos rfl, e2, show wrap64 (-wrap64 ((0 : Nat) : Int)) = 0 by unfold wrap64; omega]
      exact xor_zero_i64 (u / 2) (by omega)
    · rw [show u % 2 = 1 by omega, if_neg (by omega), e2, show wrap64 (-wrap64 ((1 : Nat) : Int)) = -1 by unfold wrap64; omega]
      exact xor_neg_i64 (u / 2) (by omega))
  go_enter Try.func45, Try.ntmps45
  go_wp2_with (fail)
  go_ret
  exact ⟨ret_int HX.out, rfl⟩

set_option maxHeartbeats 1000000 in
theorem refUnsigned_any (n : Int) (w : World) (h1 : -9223372036854775808 ≤ n) (h2 : n ≤ 9223372036854775807) :
    Calls Try.prog 43 #[.int .i64 n] w fun e w' => e = .returned (.int .u64 (Cd.uns n : Nat)) ∧ w = w' := by
  by_cases h : 0 ≤ n
  · have HU := Lib.hid (uns_pos h)
    go_enter Try.func43, Try.ntmps43
    go_wp2_with (fail)
    go_ret
    exact ⟨ret_int (by rw [HU.out]), rfl⟩
  · have HU := Lib.hid (uns_neg (n := n) (by omega))
    go_enter Try.func43, Try.ntmps43
    go_wp2_with (fail)
    go_ret
    exact ⟨ret_int (by rw [HU.out]; show 2 * -(n + 1) + 1 = _; omega), rfl⟩

end Go.Proofs.Ytnnddmhimnekaaa

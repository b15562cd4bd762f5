/- Plain mathematics of layer 1: decoding. -/
import Derived.Test.YtnnddmhimnekaaaPlain2
namespace Go.Proofs.Ytnnddmhimnekaaa
set_option linter.unusedVariables false
set_option linter.unusedSimpArgs false
namespace Cd
/-- the number that is next, after i digits that make u -/
def numD : Nat → Nat → List UInt8 → Option (Nat × List UInt8)
  | _, _, [] => none
  | i, u, c :: r => if (i = 0 ∨ c.toNat ≠ 0) ∧ (i < 9 ∨ c.toNat ≤ 1) then (if c.toNat < 128 then some (u + c.toNat % 128 * 2 ^ (7 * i), r) else numD (i + 1) (u + c.toNat % 128 * 2 ^ (7 * i)) r) else none
/-- the number of bytes or elements that follow -/
def lenD (bs : List UInt8) : Option (Nat × List UInt8) := match numD 0 0 bs with
  | some (n, r) => if n ≤ r.length then some (n, r) else none
  | none => none
/-- so many values, one by one -/
def repD (f : List UInt8 → Option (Vl × List UInt8)) : Nat → List UInt8 → Option (List Vl × List UInt8)
  | 0, bs => some ([], bs)
  | n + 1, bs => match f bs with
    | some (v, r) => (match repD f n r with
      | some (l, t) => some (v :: l, t)
      | none => none)
    | none => none
def sgnD (u : Nat) : Int := if u % 2 = 0 then ((u / 2 : Nat) : Int) else -((u / 2 : Nat) : Int) - 1
/-- the value that is next, within at most d more lists -/
def valD : Nat → List UInt8 → Option (Vl × List UInt8)
  | _, [] => none
  | d, c :: bs =>
    if c.toNat = 1 then (match numD 0 0 bs with
      | some (u, r) => some (.mk 1 (sgnD u) ByteArray.empty [], r)
      | none => none)
    else if c.toNat = 2 then (match lenD bs with
      | some (n, r) => some (.mk 2 0 ⟨(r.take n).toArray⟩ [], r.drop n)
      | none => none)
    else if c.toNat = 3 then (match d with
      | 0 => none
      | d + 1 => (match lenD bs with
        | some (n, r) => (match repD (valD d) n r with
          | some (l, t) => some (.mk 3 0 ByteArray.empty l, t)
          | none => none)
        | none => none))
    else none
def decD (bs : List UInt8) : Option Vl := match valD 16 bs with
  | some (v, []) => some v
  | _ => none

theorem numD_bd {i u : Nat} {bs : List UInt8} {n : Nat} {r : List UInt8} (h : numD i u bs = some (n, r)) (hi : i ≤ 9) (hu : u < 2 ^ (7 * i)) : n < 18446744073709551616 ∧ r.length < bs.length := by
  induction bs generalizing i u with
  | nil => simp [numD] at h
  | cons c bs ih =>
    have hc : c.toNat < 256 := c.toNat_lt
    rw [numD] at h
    split at h
    · rename_i hcond
      have hpow : 2 ^ (7 * (i + 1)) = 2 ^ (7 * i) * 128 := by rw [show 7 * (i + 1) = 7 * i + 7 by omega, Nat.pow_add]
      have hm : c.toNat % 128 < 128 := Nat.mod_lt _ (by omega)
      have hmul : c.toNat % 128 * 2 ^ (7 * i) ≤ 127 * 2 ^ (7 * i) := Nat.mul_le_mul_right _ (by omega)
      have hnew : u + c.toNat % 128 * 2 ^ (7 * i) < 2 ^ (7 * (i + 1)) := by omega
      split at h
      · simp only [Option.some.injEq, Prod.mk.injEq] at h
        obtain ⟨rfl, rfl⟩ := h
        refine ⟨?_, by simp⟩
        by_cases h9 : i < 9
        · have hle : 2 ^ (7 * (i + 1)) ≤ 2 ^ 63 := Nat.pow_le_pow_right (by omega) (by omega)
          have : (2 : Nat) ^ 63 = 9223372036854775808 := by decide
          omega
        · obtain rfl : i = 9 := by omega
          have h1 : c.toNat ≤ 1 := by omega
          have h2 : c.toNat % 128 ≤ 1 := by omega
          have h3 : c.toNat % 128 * 2 ^ (7 * 9) ≤ 1 * 2 ^ (7 * 9) := Nat.mul_le_mul_right _ h2
          have h4 : (2 : Nat) ^ (7 * 9) = 9223372036854775808 := by decide
          omega
      · rename_i h128
        have hi9 : i + 1 ≤ 9 := by omega
        obtain ⟨h1, h2⟩ := ih h hi9 hnew
        exact ⟨h1, by simp; omega⟩
    · cases h
end Cd
end Go.Proofs.Ytnnddmhimnekaaa

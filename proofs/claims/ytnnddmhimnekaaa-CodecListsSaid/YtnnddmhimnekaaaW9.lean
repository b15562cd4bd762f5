/- Walks of number and length. -/
import Derived.Test.YtnnddmhimnekaaaW8
namespace Go.Proofs.Ytnnddmhimnekaaa
open Go.RowKit
set_option linter.unusedVariables false
set_option linter.unusedSimpArgs false

/-- what a reading call leaves -/
def RdPost (base h : Nat) (w : World) (f : Nat → Value) (r : Option (Nat × List UInt8)) (e : Ending) (w' : World) : Prop :=
  w.grownBy w' (some h) ∧ match r with
    | some (n, t) => e = .returned (f n) ∧ Rd base h w' t
    | none => e = .panicked bad

theorem and_127 (c : Nat) (h : c < 256) : bits .and .u8 (c : Int) 127 = ((c % 128 : Nat) : Int) := by
  have e := u8_and_nat c 127 h (by omega)
  rw [show c &&& 127 = c % 128 from Nat.and_two_pow_sub_one_eq_mod c 7] at e
  exact e
theorem or_join (q m k : Nat) (hq : q < 2 ^ k) (h : q + m * 2 ^ k < 18446744073709551616) : bits .or .u64 (q : Int) (IntKind.u64.wrap ((m : Int) * 2 ^ k)) = ((q + m * 2 ^ k : Nat) : Int) := by
  have e0 : (m : Int) * 2 ^ k = ((m * 2 ^ k : Nat) : Int) := by simp
  have e := u64_or_nat q (m * 2 ^ k) (by omega) (by omega)
  rw [e0, IntKind.wrap_u64, show ((m * 2 ^ k : Nat) : Int) % 18446744073709551616 = ((m * 2 ^ k : Nat) : Int) by omega, e]
  rw [Nat.or_comm, Nat.mul_comm m, ← Nat.two_pow_add_eq_or_of_lt hq]
  congr 1
  omega
theorem numD_end {k q : Nat} {c : UInt8} {r : List UInt8} (h : (k = 0 ∨ c.toNat ≠ 0) ∧ (k < 9 ∨ c.toNat ≤ 1)) (h2 : c.toNat < 128) : Cd.numD k q (c :: r) = some (q + c.toNat % 128 * 2 ^ (7 * k), r) := by rw [Cd.numD, if_pos h, if_pos h2]
theorem numD_more {k q : Nat} {c : UInt8} {r : List UInt8} (h : (k = 0 ∨ c.toNat ≠ 0) ∧ (k < 9 ∨ c.toNat ≤ 1)) (h2 : ¬ c.toNat < 128) : Cd.numD k q (c :: r) = Cd.numD (k + 1) (q + c.toNat % 128 * 2 ^ (7 * k)) r := by rw [Cd.numD, if_pos h, if_neg h2]
theorem num_bd {q m k : Nat} (hk : k < 9) (hq : q < 2 ^ (7 * k)) (hm : m < 128) : q + m * 2 ^ (7 * k) < 2 ^ (7 * (k + 1)) ∧ q + m * 2 ^ (7 * k) < 9223372036854775808 := by
  have hpow : 2 ^ (7 * (k + 1)) = 2 ^ (7 * k) * 128 := by rw [show 7 * (k + 1) = 7 * k + 7 by omega, Nat.pow_add]
  have hmul : m * 2 ^ (7 * k) ≤ 127 * 2 ^ (7 * k) := Nat.mul_le_mul_right _ (by omega)
  have hle : 2 ^ (7 * (k + 1)) ≤ 2 ^ 63 := Nat.pow_le_pow_right (by omega) (by omega)
  have : (2 : Nat) ^ 63 = 9223372036854775808 := by decide
  omega

set_option maxRecDepth 100000 in
set_option maxHeartbeats 4000000 in
theorem number_any (base h : Nat) (bs : List UInt8) (w : World) (hr : Rd base h w bs) (hbh : base ≤ h) :
    Calls Try.prog 46 #[.pointer (some ⟨h, 0, none⟩)] w (RdPost base h w (fun n => .int .u64 (n : Int)) (Cd.numD 0 0 bs)) := by
  have HR := Lib.hid hr
  clear hr
  go_enter Try.func46, Try.ntmps46
  go_wp2_with (fail)
  go_loopw [2, 3] (fun u i wr => ∃ (k q : Nat) (cs : List UInt8), k ≤ 9 ∧ q < 9223372036854775808 ∧ i = .int .i64 k ∧ u = .int .u64 (q : Int) ∧ Hid (q < 2 ^ (7 * k)) ∧ Hid (Cd.numD 0 0 bs = Cd.numD k q cs) ∧ Hid (Rd base h wr cs) ∧ Hid (w.grownBy wr (some h))) (fun _ i _ => 10 - (intOf i).toNat)
  case atStart => exact ⟨0, 0, bs, by omega, by omega, rfl, rfl, Lib.hid (by decide), rfl, HR, World.grownBy.refl w _⟩
  case round =>
    obtain ⟨k, q, cs, hk, hq, rfl, rfl, HQ, HN, HRr, HG⟩ := hrel
    cases cs with
    | nil =>
      go_wp2_with (fail)
      refine (take_no 1 base h [] _ HRr.out (by simp) (by omega)).mono ?_
      rintro e w1 ⟨rfl, rfl⟩
      go_wp2_with (fail)
      refine ⟨rfl, HG.out, ?_⟩
      rw [HN.out]
      simp only [Cd.numD]
    | cons c cs =>
      go_wp2_with (fail)
      refine (take_yes 1 base h (c :: cs) _ HRr.out hbh (by simp)).mono ?_
      rintro e w1 ⟨A1, rfl, hi1, hr1, hg1⟩
      obtain ⟨b1, off1, rfl, hb1, hc1⟩ := hi1.at_ (k := 0) (by simp)
      simp only [Nat.add_zero, List.take_succ_cons, List.getElem_cons_zero] at hc1
      have HR1 := Lib.hid hr1
      have HG1 := Lib.hid (HG.out.trans hg1)
      clear hi1 hr1 hg1
      have hcl : c.toNat < 256 := c.toNat_lt
      have hcn : 0 ≤ c.toNat := by omega
      have HC := Lib.hid (rfl : c.toNat = c.toNat)
      generalize hcc : c.toNat = cn at hc1 hcl hcn
      have hand : bits .and .u8 (cn : Int) 127 = ((cn % 128 : Nat) : Int) := and_127 cn hcl
      have hm : cn % 128 < 128 := Nat.mod_lt _ (by omega)
      have HM := Lib.hid (rfl : cn % 128 = cn % 128)
      generalize hmm : cn % 128 = m at hand hm
      by_cases g1 : k = 0
      · subst g1
        have HB := Lib.hid (num_bd (by omega : 0 < 9) HQ.out hm)
        have hbl := HB.out.2
        have HV := Lib.hid (or_join q m (7 * 0) HQ.out (by omega))
        have HV0 := Lib.hid (show bits .or .u64 (q : Int) (m : Int) = ((q + m * 2 ^ (7 * 0) : Nat) : Int) by
          have e := HV.out
          rw [show (m : Int) * 2 ^ (7 * 0) = (m : Int) by simp, IntKind.wrap_u64, show (m : Int) % 18446744073709551616 = (m : Int) by omega] at e
          exact e)
        clear hbl
        go_wp2_with (fail)
        refine (want_yes _ _).mono ?_
        rintro e w2 ⟨rfl, rfl⟩
        go_wp2_with (fail)
        · go_ret
          refine ⟨HG1.out, ?_⟩
          rw [HN.out, numD_end (by omega) (by omega), hcc, hmm]
          exact ⟨ret_int HV0.out, HR1.out⟩
        · exact ⟨⟨1, q + m * 2 ^ (7 * 0), cs, by omega, HB.out.2, rfl, by rw [← HV0.out], Lib.hid HB.out.1, Lib.hid (by rw [HN.out, numD_more (by omega) (by omega), hcc, hmm]), HR1, HG1⟩, by simp [intOf]⟩
      · by_cases g2 : cn = 0
        · have hne : ((cn : Int) != 0) = false := by simp [g2]
          go_wp2_with (fail)
          refine (want_no _ _).mono ?_
          rintro e w2 ⟨rfl, rfl⟩
          go_wp2_with (fail)
          refine ⟨rfl, HG1.out, ?_⟩
          rw [HN.out]
          simp only [Cd.numD]
          rw [if_neg (by rw [hcc]; omega)]
          trivial
        · have hne : ((cn : Int) != 0) = true := by simp [g2]
          by_cases g3 : k < 9
          · have HB := Lib.hid (num_bd g3 HQ.out hm)
            have hbl := HB.out.2
            have HV := Lib.hid (or_join q m (7 * k) HQ.out (by omega))
            clear hbl
            go_wp2_with (fail)
            refine (want_yes _ _).mono ?_
            rintro e w2 ⟨rfl, rfl⟩
            go_wp2_with (fail)
            · go_ret
              refine ⟨HG1.out, ?_⟩
              rw [HN.out, numD_end (by omega) (by omega), hcc, hmm]
              exact ⟨ret_int HV.out, HR1.out⟩
            · exact ⟨⟨k + 1, q + m * 2 ^ (7 * k), cs, by omega, HB.out.2, by simp, by rw [HV.out], Lib.hid HB.out.1, Lib.hid (by rw [HN.out, numD_more (by omega) (by omega), hcc, hmm]), HR1, HG1⟩, by simp [intOf]; omega⟩
          · obtain rfl : k = 9 := by omega
            by_cases g4 : cn ≤ 1
            · have hd : decide ((cn : Int) ≤ 1) = true := by simp; omega
              have HV := Lib.hid (or_join q m 63 HQ.out (by omega))
              go_wp2_with (fail)
              refine (want_yes _ _).mono ?_
              rintro e w2 ⟨rfl, rfl⟩
              go_wp2_with (fail)
              go_ret
              refine ⟨HG1.out, ?_⟩
              rw [HN.out, numD_end (by omega) (by omega), hcc, hmm]
              refine ⟨?_, HR1.out⟩
              have e := HV.out
              rw [IntKind.wrap_u64, show ((m : Int) * 2 ^ 63) % 18446744073709551616 = (m : Int) * 9223372036854775808 by omega] at e
              exact ret_int e
            · have hd : decide ((cn : Int) ≤ 1) = false := by simp; omega
              go_wp2_with (fail)
              refine (want_no _ _).mono ?_
              rintro e w2 ⟨rfl, rfl⟩
              go_wp2_with (fail)
              refine ⟨rfl, HG1.out, ?_⟩
              rw [HN.out]
              simp only [Cd.numD]
              rw [if_neg (by rw [hcc]; omega)]
              trivial

end Go.Proofs.Ytnnddmhimnekaaa

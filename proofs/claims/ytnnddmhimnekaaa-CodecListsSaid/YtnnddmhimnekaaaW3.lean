/- Walks of numeral, in the program and in the reference. -/
import Derived.Test.YtnnddmhimnekaaaBits
import Derived.Test.YtnnddmhimnekaaaBytes
namespace Go.Proofs.Ytnnddmhimnekaaa
open Go.RowKit
set_option linter.unusedVariables false
set_option linter.unusedSimpArgs false

def NuPost (W : World) (base : Nat) (v : Value) (bs : List UInt8) (e : Ending) (w' : World) : Prop := ∃ v', e = .returned v' ∧ Cat W w' base v v' bs

theorem digits_lo {u : Nat} (h : u < 128) : Cd.digits u = [UInt8.ofNat u] := by rw [Cd.digits, if_pos h]
theorem digits_hi {u : Nat} (h : ¬ u < 128) : Cd.digits u = UInt8.ofNat (u % 128 + 128) :: Cd.digits (u / 128) := by rw [Cd.digits, if_neg h]
theorem digits_len {u : Nat} (h : u < 18446744073709551616) : (Cd.digits u).length ≤ 10 := by
  have key : ∀ k, ∀ u, u < 128 ^ k → 0 < k → (Cd.digits u).length ≤ k := by
    intro k
    induction k with
    | zero => intro u _ h0; omega
    | succ k ih =>
      intro u hu _
      by_cases h : u < 128
      · rw [digits_lo h]; simp
      · rw [digits_hi h, List.length_cons]
        have hk : 0 < k := by
          rcases Nat.eq_zero_or_pos k with h0 | h0
          · subst h0; omega
          · exact h0
        have := ih (u / 128) (by rw [Nat.pow_succ] at hu; omega) hk
        omega
  exact key 10 u (by omega) (by omega)
theorem enc_ofNat {n : Nat} (h : n < 256) : encB (UInt8.ofNat n) = .int .u8 (n : Int) := by
  unfold encB
  rw [UInt8.toNat_ofNat_of_lt' (by simpa using h)]
theorem or_128 (q : Nat) : bits .or .u8 ((q : Int) % 256) 128 = ((q % 128 + 128 : Nat) : Int) := by
  have h := u8_or_nat (q % 256) 128 (by omega) (by omega)
  rw [show ((q : Int) % 256) = ((q % 256 : Nat) : Int) by omega]
  rw [show ((128 : Nat) : Int) = 128 from rfl] at h
  rw [h]
  have e : q % 256 ||| 128 = q % 128 + 128 := by
    have h2 : ∀ m : Fin 256, m.val ||| 128 = m.val % 128 + 128 := by decide +kernel
    have := h2 ⟨q % 256, by omega⟩
    simp only at this
    rw [this]; omega
  rw [e]

theorem lit_lo {q : Nat} (h : q < 256) : #[Value.int .u8 (q : Int)] = ([UInt8.ofNat q].map encB).toArray := by
  rw [← enc_ofNat h]; rfl
theorem lit_hi (q : Nat) : #[Value.int .u8 (bits .or .u8 ((q : Int) % 256) 128)] = ([UInt8.ofNat (q % 128 + 128)].map encB).toArray := by
  rw [or_128, ← enc_ofNat (by omega)]; rfl

set_option maxRecDepth 100000 in
set_option maxHeartbeats 1000000 in
theorem numeral_any (v : Value) (bs : List UInt8) (u : Nat) (base : Nat) (W : World) (hv : OwnBytes W base v bs) (hu : u < 18446744073709551616) (hb : base ≤ W.heap.size) (hl : bs.length ≤ 549755813888) :
    Calls Try.prog 38 #[v, .int .u64 (u : Int)] W (NuPost W base v (bs ++ Cd.digits u)) := by
  have HV := Lib.hid hv
  obtain ⟨A, c, rfl⟩ := ownB_slice hv
  clear hv
  have HDL := Lib.hid (digits_len hu)
  go_enter Try.func38, Try.ntmps38
  go_wp2_with (fail)
  go_loopw [0, 1] (fun b x wr => ∃ (q : Nat) (cs : List UInt8), q < 18446744073709551616 ∧ x = .int .u64 (q : Int) ∧ Hid (cs ++ Cd.digits q = bs ++ Cd.digits u) ∧ Hid (Cat W wr base (.slice A bs.length c) b cs)) (fun _ x _ => (intOf x).toNat)
  case atStart => exact ⟨u, bs, hu, rfl, rfl, Cat.refl HV.out⟩
  case round =>
    obtain ⟨q, cs, hq, rfl, HC, HK⟩ := hrel
    have HO := Lib.hid HK.out.own
    have hlen : cs.length ≤ 549755813898 := by
      have := congrArg List.length HC.out
      simp only [List.length_append] at this
      have := HDL.out
      omega
    have hbw : base ≤ wr.heap.size := Nat.le_trans hb HK.out.grown.size
    by_cases h : q < 128
    · have hm : (q : Int) % 256 = q := by omega
      have HBL := Lib.hid (bytes_lit wr [UInt8.ofNat q] 1 #[.int .u8 (q : Int)] rfl (lit_lo (by omega)) (by simp))
      have HR := fun ty => Lib.hid (run_catB ty (ownB_alloc HO.out (.cells #[.int .u8 (q : Int)] 5)) HBL.out (by simp; omega) (by simp; omega))
      rw [digits_lo h] at HC
      clear hm
      go_wp2_with (at_builtin; go_must (refine wpList_cat rfl (.tmp 15) (.tmp 18) 27 _ rfl rfl rfl (HR _).out ?_); intro v' X' hc; have HCt := Lib.hid hc; clear hc)
      go_ret
      exact ⟨_, rfl, by rw [← HC.out]; exact HK.out.trans (HCt.out.after ((Below.refl _ _).alloc (Nat.le_refl _) _))⟩
    · have HBL := Lib.hid (bytes_lit wr [UInt8.ofNat (q % 128 + 128)] 1 #[.int .u8 (bits .or .u8 ((q : Int) % 256) 128)] rfl (lit_hi q) (by simp))
      have HR := fun ty => Lib.hid (run_catB ty (ownB_alloc HO.out (.cells #[.int .u8 (bits .or .u8 ((q : Int) % 256) 128)] 5)) HBL.out (by simp; omega) (by simp; omega))
      rw [digits_hi h] at HC
      go_wp2_with (at_builtin; go_must (refine wpList_cat rfl (.tmp 9) (.tmp 13) 27 _ rfl rfl rfl (HR _).out ?_); intro v' X' hc; have HCt := Lib.hid hc; clear hc)
      go_roundw
      case rel => exact ⟨q / 128, cs ++ [UInt8.ofNat (q % 128 + 128)], by omega, by go_num, by rw [List.append_assoc]; exact HC.out, HK.out.trans (HCt.out.after ((Below.refl _ _).alloc (Nat.le_refl _) _))⟩
      case measure => first | omega | (simp [intOf]; done) | (simp [intOf]; omega)

end Go.Proofs.Ytnnddmhimnekaaa

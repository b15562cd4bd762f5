/- The statement CodecNumbers, walked. -/
import Derived.Test.YtnnddmhimnekaaaL0
namespace Go.Proofs.Ytnnddmhimnekaaa
open Go.RowKit
set_option linter.unusedVariables false
set_option linter.unusedSimpArgs false

def iV (a : Int) : Cd.Vl := .mk 1 a ByteArray.empty []
theorem iV_fits {a : Int} (h1 : -9223372036854775808 ≤ a) (h2 : a ≤ 9223372036854775807) : Cd.fits (iV a) := Cd.fits_mk.2 ⟨by simp, by simp, ⟨h1, h2⟩, by simp⟩
theorem iV_formed (a : Int) : Cd.formed (iV a) = true := by simp [iV, Cd.formed_1]
theorem iV_depth (a : Int) : Cd.depth (iV a) = 0 := by simp [iV, Cd.depth_0]
theorem iV_ck (a : Int) : Cd.check (iV a) = 0 := by simp [Cd.check, iV_formed, iV_depth]
theorem iV_enc (a : Int) : Cd.enc (iV a) = 1 :: Cd.digits (Cd.uns a) := by simp [iV, Cd.enc]
theorem iV_encR (a : Int) : encR (iV a) = Cd.enc (iV a) := by rw [encR, if_pos (iV_ck a)]
theorem digits_ge1 (u : Nat) : 1 ≤ (Cd.digits u).length := by rw [Cd.digits]; split <;> simp
theorem digits_mono (u : Nat) : ∀ t, u ≤ t → (Cd.digits u).length ≤ (Cd.digits t).length := by
  induction u using Nat.strongRecOn with
  | ind u ih =>
    intro t h
    by_cases hu : u < 128
    · rw [Cd.digits_a hu]; exact digits_ge1 t
    · rw [Cd.digits_b hu, Cd.digits_b (u := t) (by omega), List.length_cons, List.length_cons]
      have := ih (u / 128) (by omega) (t / 128) (by omega)
      omega
def szN (a : Int) : Nat := (encR (iV a)).length
theorem szN_bd {a : Int} (h1 : -9223372036854775808 ≤ a) (h2 : a ≤ 9223372036854775807) : 2 ≤ szN a ∧ szN a ≤ 11 := by
  unfold szN
  rw [iV_encR, iV_enc, List.length_cons]
  have := digits_ge1 (Cd.uns a)
  have := Cd.digits_len0 (Cd.uns a) (Cd.uns_lt0 h1 h2)
  omega
theorem szN_mono {a b : Int} (h : (0 ≤ a ∧ a ≤ b) ∨ (a < 0 ∧ b ≤ a)) : szN a ≤ szN b := by
  unfold szN
  rw [iV_encR, iV_enc, iV_encR, iV_enc, List.length_cons, List.length_cons]
  have := digits_mono (Cd.uns a) (Cd.uns b) (by unfold Cd.uns; split <;> split <;> omega)
  omega
theorem iV_dec {a : Int} (h1 : -9223372036854775808 ≤ a) (h2 : a ≤ 9223372036854775807) : decR (Cd.enc (iV a)) = (iV a, 0) := by
  have h := Cd.valD_enc (iV a) 16 [] (iV_formed a) (by rw [iV_depth]; omega) (iV_fits h1 h2)
  rw [List.append_nil] at h
  exact decR_yes h
theorem Size_int (a : Int) (w : World) (h1 : -9223372036854775808 ≤ a) (h2 : a ≤ 9223372036854775807) : Calls Try.prog 14 #[.agg #[.int .i64 1, .int .i64 a, .string ByteArray.empty, .slice none 0 0]] w fun e w' => e = .returned (.tuple #[.int .i64 (szN a : Nat), .int .i64 0]) ∧ Below w.heap.size w w' := by
  have h := Size_any (iV a) _ Any w (iV_fits h1 h2) (by rw [iV_depth]; omega) (IsV.of IsVs.nil) (by rw [iV_enc, List.length_cons]; have := Cd.digits_len0 (Cd.uns a) (Cd.uns_lt0 h1 h2); omega)
  rw [iV_ck] at h
  exact h
theorem Decode_int (a : Int) (x : Value) (w : World) (h1 : -9223372036854775808 ≤ a) (h2 : a ≤ 9223372036854775807) (hv : InB w.heap.size w x (Cd.enc (iV a))) :
    Calls Try.prog 18 #[x] w fun e w' => ∃ A c, e = .returned (.tuple #[.agg #[.int .i64 1, .int .i64 a, .string ByteArray.empty, .slice A 0 c], .int .i64 0]) ∧ Below w.heap.size w w' := by
  refine (Decode_any x _ w hv (by rw [iV_enc, List.length_cons]; have := Cd.digits_len0 (Cd.uns a) (Cd.uns_lt0 h1 h2); omega)).mono ?_
  rintro e w' ⟨y, rfl, hy, hb⟩
  rw [iV_dec h1 h2] at hy ⊢
  obtain ⟨A, c, rfl, _⟩ := hy.opens
  exact ⟨A, c, rfl, hb⟩

set_option maxHeartbeats 4000000 in
set_option maxRecDepth 100000 in
theorem CodecNumbers_any (a b : Int) (w : World) (h1 : -9223372036854775808 ≤ a ∧ a ≤ 9223372036854775807) (h2 : -9223372036854775808 ≤ b ∧ b ≤ 9223372036854775807) : Calls Try.prog 9 #[.int .i64 a, .int .i64 b] w fun e w' => e = .returned (.bool true) ∧ Below w.heap.size w w' := by
  have B := Lib.hid (Below.refl w.heap.size w)
  have H1 := Lib.hid h1
  have H2 := Lib.hid h2
  have M := Lib.hid (szN_mono (a := a) (b := b))
  have KA := Lib.hid (szN_bd h1.1 h1.2)
  have KB := Lib.hid (szN_bd h2.1 h2.2)
  clear h1 h2
  go_enter Try.func9, Try.ntmps9
  go_wp2_with (fail)
  refine (sane_any _).mono ?_
  rintro e w1 ⟨rfl, b1⟩
  have Dw1 := Lib.hid (b1)
  replace B := Lib.hid (B.out.upb Dw1.out)
  clear Dw1 b1
  go_wp2_with (fail)
  refine (Int_any _ _).mono ?_
  rintro e w2 ⟨rfl, b2⟩
  have Dw2 := Lib.hid (b2)
  replace B := Lib.hid (B.out.upb Dw2.out)
  clear Dw2 b2
  go_wp2_with (fail)
  refine (Size_int a _ H1.out.1 H1.out.2).mono ?_
  rintro e w3 ⟨rfl, b3⟩
  have Dw3 := Lib.hid (b3)
  replace B := Lib.hid (B.out.upb Dw3.out)
  clear Dw3 b3
  go_wp2_with (fail)
  refine (Int_any _ _).mono ?_
  rintro e w4 ⟨rfl, b4⟩
  have Dw4 := Lib.hid (b4)
  replace B := Lib.hid (B.out.upb Dw4.out)
  clear Dw4 b4
  go_wp2_with (fail)
  refine (Size_int b _ H2.out.1 H2.out.2).mono ?_
  rintro e w5 ⟨rfl, b5⟩
  have Dw5 := Lib.hid (b5)
  replace B := Lib.hid (B.out.upb Dw5.out)
  clear Dw5 b5
  generalize szN a = m at *
  generalize szN b = n at *
  have d1 : decide ((m : Int) < 2) = false := by have := KA.out; simp; omega
  have d2 : decide (11 < (m : Int)) = false := by have := KA.out; simp; omega
  have d3 : decide ((n : Int) < 2) = false := by have := KB.out; simp; omega
  have d4 : decide (11 < (n : Int)) = false := by have := KB.out; simp; omega
  have key : ∀ (W : World) (K : Act → World → Prop) (u : Act) (tst : Prop), tst → tst := fun _ _ _ _ h => h
  clear key
  rcases (show (0 ≤ a ∧ a ≤ b ∧ m ≤ n) ∨ (0 ≤ a ∧ b < a) ∨ (a < 0 ∧ b ≤ a ∧ m ≤ n) ∨ (a < 0 ∧ a < b) by have := M.out; omega) with ⟨t1, t2, t3⟩ | ⟨t1, t2⟩ | ⟨t1, t2, t3⟩ | ⟨t1, t2⟩
  · have e1 : decide (0 ≤ a) = true := by simpa using t1
    have e2 : decide (a < 0) = false := by simp; omega
    have e3 : decide (a ≤ b) = true := by simpa using t2
    have e4 : decide (n < m) = false := by simp; omega
    clear t1 t2
    go_wp2_with (fail)
    clear e1 e2 e3 e4 d1 d2 d3 d4
    refine (Int_any _ _).mono ?_
    rintro e w6 ⟨rfl, b6⟩
    have B6 := Lib.hid (B.out.upb b6)
    clear b6
    go_wp2_with (fail)
    refine (Encode_is (iV a) _ Any _ _ (iV_fits H1.out.1 H1.out.2) (by rw [iV_depth]; omega) (iV_ck a) rfl (IsV.of IsVs.nil) (by rw [iV_enc, List.length_cons]; have := Cd.digits_len0 (Cd.uns a) (Cd.uns_lt0 H1.out.1 H1.out.2); omega)).mono ?_
    rintro e w7 ⟨A7, c7, rfl, bt7, b7⟩
    have T7 := Lib.hid bt7
    have B7 := Lib.hid (B6.out.upb b7)
    clear b7 bt7 B6
    go_wp2_with (fail)
    refine (Decode_int a _ _ H1.out.1 H1.out.2 T7.out.inB).mono ?_
    rintro e w8 ⟨A8, c8, rfl, b8⟩
    have B8 := Lib.hid (B7.out.upb b8)
    clear b8 B7
    have F8 := Lib.hid (Four.new w8 (.int .i64 1) (.int .i64 a) (.string ByteArray.empty) (.slice A8 0 c8))
    have B9 := Lib.hid (B8.out.upb (blw1 w8 (.cells #[.int .i64 1, .int .i64 a, .string ByteArray.empty, .slice A8 0 c8] 24)))
    have q0 := F8.out.c0
    have q1 := F8.out.c1
    have q2 := F8.out.c2
    have q3 := F8.out.c3
    go_wp2_with (fail)
    go_ret
    exact ⟨rfl, B9.out⟩
  · have e1 : decide (0 ≤ a) = true := by simpa using t1
    have e2 : decide (a < 0) = false := by simp; omega
    have e3 : decide (a ≤ b) = false := by simp; omega
    have e4 : 0 = 0 := rfl
    clear t1 t2
    go_wp2_with (fail)
    clear e1 e2 e3 e4 d1 d2 d3 d4
    refine (Int_any _ _).mono ?_
    rintro e w6 ⟨rfl, b6⟩
    have B6 := Lib.hid (B.out.upb b6)
    clear b6
    go_wp2_with (fail)
    refine (Encode_is (iV a) _ Any _ _ (iV_fits H1.out.1 H1.out.2) (by rw [iV_depth]; omega) (iV_ck a) rfl (IsV.of IsVs.nil) (by rw [iV_enc, List.length_cons]; have := Cd.digits_len0 (Cd.uns a) (Cd.uns_lt0 H1.out.1 H1.out.2); omega)).mono ?_
    rintro e w7 ⟨A7, c7, rfl, bt7, b7⟩
    have T7 := Lib.hid bt7
    have B7 := Lib.hid (B6.out.upb b7)
    clear b7 bt7 B6
    go_wp2_with (fail)
    refine (Decode_int a _ _ H1.out.1 H1.out.2 T7.out.inB).mono ?_
    rintro e w8 ⟨A8, c8, rfl, b8⟩
    have B8 := Lib.hid (B7.out.upb b8)
    clear b8 B7
    have F8 := Lib.hid (Four.new w8 (.int .i64 1) (.int .i64 a) (.string ByteArray.empty) (.slice A8 0 c8))
    have B9 := Lib.hid (B8.out.upb (blw1 w8 (.cells #[.int .i64 1, .int .i64 a, .string ByteArray.empty, .slice A8 0 c8] 24)))
    have q0 := F8.out.c0
    have q1 := F8.out.c1
    have q2 := F8.out.c2
    have q3 := F8.out.c3
    go_wp2_with (fail)
    go_ret
    exact ⟨rfl, B9.out⟩
  · have e1 : decide (0 ≤ a) = false := by simp; omega
    have e2 : decide (a < 0) = true := by simpa using t1
    have e3 : decide (b ≤ a) = true := by simpa using t2
    have e4 : decide (n < m) = false := by simp; omega
    clear t1 t2
    go_wp2_with (fail)
    clear e1 e2 e3 e4 d1 d2 d3 d4
    refine (Int_any _ _).mono ?_
    rintro e w6 ⟨rfl, b6⟩
    have B6 := Lib.hid (B.out.upb b6)
    clear b6
    go_wp2_with (fail)
    refine (Encode_is (iV a) _ Any _ _ (iV_fits H1.out.1 H1.out.2) (by rw [iV_depth]; omega) (iV_ck a) rfl (IsV.of IsVs.nil) (by rw [iV_enc, List.length_cons]; have := Cd.digits_len0 (Cd.uns a) (Cd.uns_lt0 H1.out.1 H1.out.2); omega)).mono ?_
    rintro e w7 ⟨A7, c7, rfl, bt7, b7⟩
    have T7 := Lib.hid bt7
    have B7 := Lib.hid (B6.out.upb b7)
    clear b7 bt7 B6
    go_wp2_with (fail)
    refine (Decode_int a _ _ H1.out.1 H1.out.2 T7.out.inB).mono ?_
    rintro e w8 ⟨A8, c8, rfl, b8⟩
    have B8 := Lib.hid (B7.out.upb b8)
    clear b8 B7
    have F8 := Lib.hid (Four.new w8 (.int .i64 1) (.int .i64 a) (.string ByteArray.empty) (.slice A8 0 c8))
    have B9 := Lib.hid (B8.out.upb (blw1 w8 (.cells #[.int .i64 1, .int .i64 a, .string ByteArray.empty, .slice A8 0 c8] 24)))
    have q0 := F8.out.c0
    have q1 := F8.out.c1
    have q2 := F8.out.c2
    have q3 := F8.out.c3
    go_wp2_with (fail)
    go_ret
    exact ⟨rfl, B9.out⟩
  · have e1 : decide (0 ≤ a) = false := by simp; omega
    have e2 : decide (a < 0) = true := by simpa using t1
    have e3 : decide (b ≤ a) = false := by simp; omega
    have e4 : 0 = 0 := rfl
    clear t1 t2
    go_wp2_with (fail)
    clear e1 e2 e3 e4 d1 d2 d3 d4
    refine (Int_any _ _).mono ?_
    rintro e w6 ⟨rfl, b6⟩
    have B6 := Lib.hid (B.out.upb b6)
    clear b6
    go_wp2_with (fail)
    refine (Encode_is (iV a) _ Any _ _ (iV_fits H1.out.1 H1.out.2) (by rw [iV_depth]; omega) (iV_ck a) rfl (IsV.of IsVs.nil) (by rw [iV_enc, List.length_cons]; have := Cd.digits_len0 (Cd.uns a) (Cd.uns_lt0 H1.out.1 H1.out.2); omega)).mono ?_
    rintro e w7 ⟨A7, c7, rfl, bt7, b7⟩
    have T7 := Lib.hid bt7
    have B7 := Lib.hid (B6.out.upb b7)
    clear b7 bt7 B6
    go_wp2_with (fail)
    refine (Decode_int a _ _ H1.out.1 H1.out.2 T7.out.inB).mono ?_
    rintro e w8 ⟨A8, c8, rfl, b8⟩
    have B8 := Lib.hid (B7.out.upb b8)
    clear b8 B7
    have F8 := Lib.hid (Four.new w8 (.int .i64 1) (.int .i64 a) (.string ByteArray.empty) (.slice A8 0 c8))
    have B9 := Lib.hid (B8.out.upb (blw1 w8 (.cells #[.int .i64 1, .int .i64 a, .string ByteArray.empty, .slice A8 0 c8] 24)))
    have q0 := F8.out.c0
    have q1 := F8.out.c1
    have q2 := F8.out.c2
    have q3 := F8.out.c3
    go_wp2_with (fail)
    go_ret
    exact ⟨rfl, B9.out⟩

end Go.Proofs.Ytnnddmhimnekaaa

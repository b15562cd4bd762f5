/- The statement CodecDecodeSpec, walked. -/
import Derived.Test.YtnnddmhimnekaaaL0
namespace Go.Proofs.Ytnnddmhimnekaaa
open Go.RowKit
set_option linter.unusedVariables false
set_option linter.unusedSimpArgs false

theorem decR_fits {bs : List UInt8} (h : bs.length ≤ 1000000) : Cd.fits (decR bs).1 := by
  cases hv : Cd.valD 16 bs with
  | none => rw [decR_none hv]; simp [Cd.fits_mk]
  | some p =>
    obtain ⟨x, t⟩ := p
    cases t with
    | nil => rw [decR_yes hv]; exact (Cd.valD_inv 16 bs x [] hv).2.2.2 h
    | cons c t => rw [decR_rest hv]; simp [Cd.fits_mk]
theorem decR_e (bs : List UInt8) : (decR bs).2 = 0 ∨ (decR bs).2 = 10 := by
  unfold decR; split <;> simp

set_option maxHeartbeats 4000000 in
set_option maxRecDepth 100000 in
theorem CodecDecodeSpec_any (x : Value) (bs : List UInt8) (w : World) (hv : Inn w x bs) (hl : bs.length ≤ 9223372036854775807) : Calls Try.prog 4 #[x] w fun e w' => e = .returned (.bool true) ∧ Below w.heap.size w w' := by
  have HI := Lib.hid hv
  obtain ⟨A, c, rfl, _, _, _, _⟩ := hv
  have B := Lib.hid (Below.refl w.heap.size w)
  go_enter Try.func4, Try.ntmps4
  go_wp2_with (fail)
  refine (sane_any _).mono ?_
  rintro e w1 ⟨rfl, b1⟩
  have Dw1 := Lib.hid (b1)
  replace HI := Lib.hid (HI.out.upb Dw1.out)
  replace B := Lib.hid (B.out.upb Dw1.out)
  clear Dw1 b1
  by_cases hlen : bs.length ≤ 2000
  · have hd : decide (2000 < (bs.length : Int)) = false := by simp; omega
    have HF := Lib.hid (decR_fits (bs := bs) (by omega))
    go_wp2_with (fail)
    refine (Decode_any _ bs _ HI.out (by omega)).mono ?_
    rintro e w2 ⟨x1, rfl, hv1, b2⟩
    obtain ⟨A1, c1, rfl, _⟩ := hv1.opens
    have V1 := Lib.hid hv1
    clear hv1
    have Dw2 := Lib.hid (b2)
    replace HI := Lib.hid (HI.out.upb Dw2.out)
    replace B := Lib.hid (B.out.upb Dw2.out)
    clear Dw2 b2
    generalize hz : (decR bs).1 = z at *
    generalize hy : (decR bs).2 = y at *
    have HZ := Lib.hid hz
    have HY := Lib.hid hy
    clear hz hy
    have F1 := Lib.hid (Four.new w2 (.int .i64 z.kind) (.int .i64 z.num) (.string z.str) (.slice A1 z.elems.length c1))
    go_wp2_with (fail)
    have DX := Lib.hid (blw1 w2 (.cells #[.int .i64 z.kind, .int .i64 z.num, .string z.str, .slice A1 z.elems.length c1] 24))
    replace HI := Lib.hid (HI.out.upb DX.out)
    replace B := Lib.hid (B.out.upb DX.out)
    replace V1 := Lib.hid (V1.out.upb DX.out)
    generalize hX3 : w2.alloc (.cells #[.int .i64 z.kind, .int .i64 z.num, .string z.str, .slice A1 z.elems.length c1] 24) = X3 at *
    clear hX3 DX
    refine (refDecode_any _ bs _ HI.out (by omega)).mono ?_
    rintro e w3 ⟨x2, rfl, hv2, b3⟩
    rw [HZ.out] at hv2
    rw [HY.out]
    obtain ⟨A2, c2, rfl, _⟩ := hv2.opens
    have V2 := Lib.hid hv2
    clear hv2
    have Dw3 := Lib.hid (b3)
    replace HI := Lib.hid (HI.out.upb Dw3.out)
    replace B := Lib.hid (B.out.upb Dw3.out)
    replace V1 := Lib.hid (V1.out.upb Dw3.out)
    replace F1 := Lib.hid (F1.out.upb Dw3.out)
    clear Dw3 b3
    have F2 := Lib.hid (Four.new w3 (.int .i64 z.kind) (.int .i64 z.num) (.string z.str) (.slice A2 z.elems.length c2))
    have DX := Lib.hid (blw1 w3 (.cells #[.int .i64 z.kind, .int .i64 z.num, .string z.str, .slice A2 z.elems.length c2] 24))
    replace F1 := Lib.hid (F1.out.upb DX.out)
    have m0 := F1.out.c0
    have m1 := F1.out.c1
    have m2 := F1.out.c2
    have m3 := F1.out.c3

    go_wp2_with (fail)
    refine (refSame_any z HF.out z _ _ _ _ _ HF.out (V1.out.upb DX.out) (V2.out.upb DX.out)).mono ?_
    rintro e w4 ⟨rfl, b4⟩
    rw [Cd.same_refl]
    have B4 := Lib.hid ((B.out.upb DX.out).upb b4)
    clear b4 DX m0 m1 m2 m3
    go_wp2_with (fail)
    go_ret
    exact ⟨rfl, B4.out⟩
  · have hd : decide (2000 < (bs.length : Int)) = true := by simp; omega
    go_wp2_with (fail)
    go_ret
    exact ⟨rfl, B.out⟩

end Go.Proofs.Ytnnddmhimnekaaa

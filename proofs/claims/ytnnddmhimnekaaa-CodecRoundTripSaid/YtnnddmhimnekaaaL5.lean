/- The statement CodecRoundTrip, walked. -/
import Derived.Test.YtnnddmhimnekaaaL1
import Derived.Test.YtnnddmhimnekaaaL3
namespace Go.Proofs.Ytnnddmhimnekaaa
open Go.RowKit
set_option linter.unusedVariables false
set_option linter.unusedSimpArgs false

theorem Decode_ok (x : Value) (bs : List UInt8) (z : Cd.Vl) (w : World) (hv : Inn w x bs) (hl : bs.length ≤ 1000000) (hz : decR bs = (z, 0)) :
    Calls Try.prog 18 #[x] w fun e w' => ∃ A c, e = .returned (.tuple #[.agg #[.int .i64 z.kind, .int .i64 z.num, .string z.str, .slice A z.elems.length c], .int .i64 0]) ∧ IsV Any w' (.agg #[.int .i64 z.kind, .int .i64 z.num, .string z.str, .slice A z.elems.length c]) z ∧ Below w.heap.size w w' := by
  refine (Decode_any x bs w hv hl).mono ?_
  rintro e w' ⟨y, rfl, hy, hb⟩
  rw [hz] at hy ⊢
  obtain ⟨A, c, rfl, _⟩ := hy.opens
  exact ⟨A, c, rfl, hy.mono (fun _ _ _ => trivial), hb⟩
theorem Decode_bad (x : Value) (bs : List UInt8) (w : World) (hv : Inn w x bs) (hl : bs.length ≤ 1000000) (hz : decR bs = (.mk 0 0 ByteArray.empty [], 10)) :
    Calls Try.prog 18 #[x] w fun e w' => ∃ A c, e = .returned (.tuple #[.agg #[.int .i64 0, .int .i64 0, .string ByteArray.empty, .slice A 0 c], .int .i64 10]) ∧ IsV Any w' (.agg #[.int .i64 0, .int .i64 0, .string ByteArray.empty, .slice A 0 c]) (.mk 0 0 ByteArray.empty []) ∧ Below w.heap.size w w' := by
  refine (Decode_any x bs w hv hl).mono ?_
  rintro e w' ⟨y, rfl, hy, hb⟩
  rw [hz] at hy ⊢
  obtain ⟨A, c, rfl, _⟩ := hy.opens
  exact ⟨A, c, rfl, hy.mono (fun _ _ _ => trivial), hb⟩
theorem decR_cases (bs : List UInt8) : (∃ z, decR bs = (z, 0) ∧ Cd.check z = 0 ∧ Cd.enc z = bs ∧ (bs.length ≤ 1000000 → Cd.fits z ∧ Cd.depth z ≤ 1000)) ∨ decR bs = (.mk 0 0 ByteArray.empty [], 10) := by
  cases hv : Cd.valD 16 bs with
  | none => exact .inr (decR_none hv)
  | some p =>
    obtain ⟨z, t⟩ := p
    cases t with
    | nil =>
      obtain ⟨d1, d2, d3, d4⟩ := Cd.valD_inv 16 bs z [] hv
      refine .inl ⟨z, decR_yes hv, by simp [Cd.check, d1]; omega, by rw [d3]; simp, fun h => ⟨d4 h, by omega⟩⟩
    | cons c t => exact .inr (decR_rest hv)
theorem check_dec {v : Cd.Vl} (hf : Cd.fits v) (hc : Cd.check v = 0) : decR (Cd.enc v) = (v, 0) := by
  have h1 : Cd.formed v = true ∧ Cd.depth v ≤ 16 := by
    unfold Cd.check at hc
    split at hc
    · rename_i h
      split at hc
      · cases hc
      · exact ⟨h, by omega⟩
    · cases hc
  have h := Cd.valD_enc v 16 [] h1.1 h1.2 hf
  rw [List.append_nil] at h
  exact decR_yes h
theorem len_few {v : Cd.Vl} (hr : Cd.raw v) (h : [v].all Cd.fewB = true) : (Cd.enc v).length ≤ 42200 := (Cd.few_ok hr (by simpa using h)).2.2
theorem Bts.inn {w : World} {v : Value} {bs : List UInt8} (h : Bts w v bs) : Inn w v bs := h.inB
theorem refSame_self (v : Cd.Vl) (x y : Value) (P Q : Nat → Prop) (w : World) (hf : Cd.fits v) (hx : IsV P w x v) (hy : IsV Q w y v) : Calls Try.prog 20 #[x, y] w (SamePost true w) := by
  have h := refSame_any v hf v x y P Q w hf hx hy
  rw [Cd.same_refl] at h
  exact h

set_option maxHeartbeats 4000000 in
set_option maxRecDepth 100000 in
theorem CodecRoundTrip_any (x y : Value) (v : Cd.Vl) (bs : List UInt8) (w : World) (hv : IsV Any w x v) (hr : Cd.raw v) (hy : Inn w y bs) (hl : bs.length ≤ 9223372036854775807) : Calls Try.prog 6 #[x, y] w fun e w' => e = .returned (.bool true) ∧ Below w.heap.size w w' := by
  have HR := Lib.hid hr
  obtain ⟨A, c, rfl, _⟩ := hv.opens
  have HI := Lib.hid (hy.upb (blw1 w (.cells #[.int .i64 v.kind, .int .i64 v.num, .string v.str, .slice A v.elems.length c] 24)))
  obtain ⟨Ay, cy, rfl, _, _, _, _⟩ := hy
  have HV := Lib.hid (hv.under (blw1 w (.cells #[.int .i64 v.kind, .int .i64 v.num, .string v.str, .slice A v.elems.length c] 24)))
  have F := Lib.hid (Four.new w (.int .i64 v.kind) (.int .i64 v.num) (.string v.str) (.slice A v.elems.length c))
  have B := Lib.hid (blw1 w (.cells #[.int .i64 v.kind, .int .i64 v.num, .string v.str, .slice A v.elems.length c] 24))
  clear hv hr
  go_enter Try.func6, Try.ntmps6
  go_wp2_with (fail)
  refine (sane_any _).mono ?_
  rintro e w1 ⟨rfl, b1⟩
  have Dw1 := Lib.hid (b1)
  replace HI := Lib.hid (HI.out.upb Dw1.out)
  replace HV := Lib.hid (HV.out.upb Dw1.out)
  replace F := Lib.hid (F.out.upb Dw1.out)
  replace B := Lib.hid (B.out.upb Dw1.out)
  clear Dw1 b1
  have Fq0 := F.out.c0
  have Fq1 := F.out.c1
  have Fq2 := F.out.c2
  have Fq3 := F.out.c3
  go_wp2_with (fail)
  have HL := Lib.hid (vs_one _ _ _ _ _ _ HV.out)
  refine (few_any [v] _ Any _ (by simpa using HR.out) (by simp) HL.out).mono ?_
  rintro e w2 ⟨rfl, b2⟩
  have Dw2 := Lib.hid ((blw1 w1 _).up b2)
  replace HI := Lib.hid (HI.out.upb Dw2.out)
  replace HV := Lib.hid (HV.out.upb Dw2.out)
  replace F := Lib.hid (F.out.upb Dw2.out)
  replace B := Lib.hid (B.out.upb Dw2.out)
  clear Fq0 Fq1 Fq2 Fq3
  clear Dw2 b2 HL
  have Fq0 := F.out.c0
  have Fq1 := F.out.c1
  have Fq2 := F.out.c2
  have Fq3 := F.out.c3
  cases hfew : [v].all Cd.fewB
  · clear Fq0 Fq1 Fq2 Fq3
    go_wp2_with (fail)
    go_ret
    exact ⟨rfl, B.out⟩
  have HFT := Lib.hid (few_all1 HR.out hfew)
  have HFW := Lib.hid (len_few HR.out hfew)
  clear hfew
  by_cases hlen : 2000 < bs.length
  · have hd : decide (2000 < (bs.length : Int)) = true := by simp; omega
    clear Fq0 Fq1 Fq2 Fq3
    go_wp2_with (fail)
    go_ret
    exact ⟨rfl, B.out⟩
  have hlen2 : bs.length ≤ 1000000 := by omega
  have hd : decide (2000 < (bs.length : Int)) = false := by simp; omega
  clear hlen
  go_wp2_with (fail)
  clear hd
  refine (Encode_any v _ Any _ HFT.out.1 HFT.out.2.1 HV.out HFT.out.2.2).mono ?_
  rintro e w3 ⟨x1, rfl, bt1, b3⟩
  obtain ⟨A1, c1, rfl⟩ := bt1.slice
  have T1 := Lib.hid bt1
  clear bt1
  have Dw3 := Lib.hid (b3)
  replace HI := Lib.hid (HI.out.upb Dw3.out)
  replace HV := Lib.hid (HV.out.upb Dw3.out)
  replace F := Lib.hid (F.out.upb Dw3.out)
  replace B := Lib.hid (B.out.upb Dw3.out)
  clear Fq0 Fq1 Fq2 Fq3
  clear Dw3 b3
  have Fq0 := F.out.c0
  have Fq1 := F.out.c1
  have Fq2 := F.out.c2
  have Fq3 := F.out.c3
  have HCR := Lib.hid (decR_cases bs)
  have HED := Lib.hid (fun hc => check_dec (v := v) HFT.out.1 hc)
  have HER := Lib.hid (show Cd.check v = 0 → encR v = Cd.enc v from fun h => by simp [encR, h])
  generalize hck : Cd.check v = ck at *
  have HCK := Lib.hid hck
  clear hck
  go_wp2_with (fail)
  refine (Check_is v ck _ Any _ HFT.out.1 HFT.out.2.1 HV.out HCK.out).mono ?_
  rintro e w4 ⟨rfl, b4⟩
  have Dw4 := Lib.hid (b4)
  replace HI := Lib.hid (HI.out.upb Dw4.out)
  replace HV := Lib.hid (HV.out.upb Dw4.out)
  replace F := Lib.hid (F.out.upb Dw4.out)
  replace B := Lib.hid (B.out.upb Dw4.out)
  replace T1 := Lib.hid (T1.out.upb Dw4.out)
  clear Fq0 Fq1 Fq2 Fq3
  clear Dw4 b4
  have Fq0 := F.out.c0
  have Fq1 := F.out.c1
  have Fq2 := F.out.c2
  have Fq3 := F.out.c3
  by_cases hck : ck = 0
  · subst hck
    replace T1 := Lib.hid (show Bts w4 (.slice A1 (encR v).length c1) (Cd.enc v) from by have h := T1.out; rw [HER.out rfl] at h ⊢; exact h)
    have HLE := Lib.hid (HER.out (by first | rfl | trivial))
    go_wp2_with (fail)
    refine (Decode_ok _ (Cd.enc v) v _ (T1.out.inn) (by have := HFW.out; omega) (HED.out (by first | rfl | trivial))).mono ?_
    rintro e w5 ⟨A5, c5, rfl, hv5, b5⟩
    have V5 := Lib.hid hv5
    clear hv5
    have Dw5 := Lib.hid (b5)
    replace HI := Lib.hid (HI.out.upb Dw5.out)
    replace HV := Lib.hid (HV.out.upb Dw5.out)
    replace F := Lib.hid (F.out.upb Dw5.out)
    replace B := Lib.hid (B.out.upb Dw5.out)
    replace T1 := Lib.hid (T1.out.upb Dw5.out)
    clear Fq0 Fq1 Fq2 Fq3
    clear Dw5 b5
    have Fq0 := F.out.c0
    have Fq1 := F.out.c1
    have Fq2 := F.out.c2
    have Fq3 := F.out.c3
    clear Fq0 Fq1 Fq2 Fq3
    have F5 := Lib.hid (Four.new w5 (.int .i64 v.kind) (.int .i64 v.num) (.string v.str) (.slice A5 v.elems.length c5))
    have DX := Lib.hid (blw1 w5 (.cells #[.int .i64 v.kind, .int .i64 v.num, .string v.str, .slice A5 v.elems.length c5] 24))
    replace HI := Lib.hid (HI.out.upb DX.out)
    replace HV := Lib.hid (HV.out.upb DX.out)
    replace F := Lib.hid (F.out.upb DX.out)
    replace B := Lib.hid (B.out.upb DX.out)
    replace T1 := Lib.hid (T1.out.upb DX.out)
    replace V5 := Lib.hid (V5.out.upb DX.out)
    have Fq0 := F.out.c0
    have Fq1 := F.out.c1
    have Fq2 := F.out.c2
    have Fq3 := F.out.c3
    have p0 := F5.out.c0
    have p1 := F5.out.c1
    have p2 := F5.out.c2
    have p3 := F5.out.c3
    go_wp2_with (fail)
    generalize hX5 : w5.alloc (.cells #[.int .i64 v.kind, .int .i64 v.num, .string v.str, .slice A5 v.elems.length c5] 24) = X5 at *
    clear hX5 DX p0 p1 p2 p3
    clear Fq0 Fq1 Fq2 Fq3
    refine (same_self v _ _ Any Any _ HFT.out.1 HV.out V5.out).mono ?_
    rintro e w6 ⟨rfl, b6⟩
    have Dw6 := Lib.hid (b6)
    replace HI := Lib.hid (HI.out.upb Dw6.out)
    replace HV := Lib.hid (HV.out.upb Dw6.out)
    replace F := Lib.hid (F.out.upb Dw6.out)
    replace B := Lib.hid (B.out.upb Dw6.out)
    replace T1 := Lib.hid (T1.out.upb Dw6.out)
    replace V5 := Lib.hid (V5.out.upb Dw6.out)
    replace F5 := Lib.hid (F5.out.upb Dw6.out)
    clear Dw6 b6
    have Fq0 := F.out.c0
    have Fq1 := F.out.c1
    have Fq2 := F.out.c2
    have Fq3 := F.out.c3
    have F5q0 := F5.out.c0
    have F5q1 := F5.out.c1
    have F5q2 := F5.out.c2
    have F5q3 := F5.out.c3
    go_wp2_with (fail)
    refine (refSame_self v _ _ Any Any _ HFT.out.1 HV.out V5.out).mono ?_
    rintro e w7 ⟨rfl, b7⟩
    have Dw7 := Lib.hid (b7)
    replace HI := Lib.hid (HI.out.upb Dw7.out)
    replace HV := Lib.hid (HV.out.upb Dw7.out)
    replace F := Lib.hid (F.out.upb Dw7.out)
    replace B := Lib.hid (B.out.upb Dw7.out)
    replace T1 := Lib.hid (T1.out.upb Dw7.out)
    replace V5 := Lib.hid (V5.out.upb Dw7.out)
    replace F5 := Lib.hid (F5.out.upb Dw7.out)
    clear Fq0 Fq1 Fq2 Fq3 F5q0 F5q1 F5q2 F5q3
    clear Dw7 b7
    have Fq0 := F.out.c0
    have Fq1 := F.out.c1
    have Fq2 := F.out.c2
    have Fq3 := F.out.c3
    have F5q0 := F5.out.c0
    have F5q1 := F5.out.c1
    have F5q2 := F5.out.c2
    have F5q3 := F5.out.c3
    clear Fq0 Fq1 Fq2 Fq3 F5q0 F5q1 F5q2 F5q3
    go_wp2_with (fail)
    rcases HCR.out with ⟨z, HZ0⟩ | HZ0
    · have HZ := Lib.hid HZ0
      clear HZ0
      refine (Decode_ok _ bs z _ HI.out (by omega) HZ.out.1).mono ?_
      rintro e w8 ⟨A8, c8, rfl, hv8, b8⟩
      have V8 := Lib.hid hv8
      clear hv8
      have Dw8 := Lib.hid (b8)
      replace HI := Lib.hid (HI.out.upb Dw8.out)
      replace HV := Lib.hid (HV.out.upb Dw8.out)
      replace F := Lib.hid (F.out.upb Dw8.out)
      replace B := Lib.hid (B.out.upb Dw8.out)
      replace T1 := Lib.hid (T1.out.upb Dw8.out)
      replace V5 := Lib.hid (V5.out.upb Dw8.out)
      replace F5 := Lib.hid (F5.out.upb Dw8.out)
      clear Dw8 b8
      have F8 := Lib.hid (Four.new w8 (.int .i64 z.kind) (.int .i64 z.num) (.string z.str) (.slice A8 z.elems.length c8))
      have DX := Lib.hid (blw1 w8 (.cells #[.int .i64 z.kind, .int .i64 z.num, .string z.str, .slice A8 z.elems.length c8] 24))
      replace HI := Lib.hid (HI.out.upb DX.out)
      replace HV := Lib.hid (HV.out.upb DX.out)
      replace F := Lib.hid (F.out.upb DX.out)
      replace B := Lib.hid (B.out.upb DX.out)
      replace T1 := Lib.hid (T1.out.upb DX.out)
      replace V5 := Lib.hid (V5.out.upb DX.out)
      replace F5 := Lib.hid (F5.out.upb DX.out)
      replace V8 := Lib.hid (V8.out.upb DX.out)
      have q0 := F8.out.c0
      have q1 := F8.out.c1
      have q2 := F8.out.c2
      have q3 := F8.out.c3
      go_wp2_with (fail)
      generalize hX9 : w8.alloc (.cells #[.int .i64 z.kind, .int .i64 z.num, .string z.str, .slice A8 z.elems.length c8] 24) = X9 at *
      clear hX9 DX q0 q1 q2 q3
      refine (Encode_is z _ Any _ bs (HZ.out.2.2.2 hlen2).1 (HZ.out.2.2.2 hlen2).2 HZ.out.2.1 HZ.out.2.2.1 V8.out (by omega)).mono ?_
      rintro e w9 ⟨A10, c10, rfl, bt10, b9⟩
      have T10 := Lib.hid bt10
      clear bt10
      have Dw9 := Lib.hid (b9)
      replace HI := Lib.hid (HI.out.upb Dw9.out)
      replace HV := Lib.hid (HV.out.upb Dw9.out)
      replace F := Lib.hid (F.out.upb Dw9.out)
      replace B := Lib.hid (B.out.upb Dw9.out)
      replace T1 := Lib.hid (T1.out.upb Dw9.out)
      replace V5 := Lib.hid (V5.out.upb Dw9.out)
      replace F5 := Lib.hid (F5.out.upb Dw9.out)
      replace V8 := Lib.hid (V8.out.upb Dw9.out)
      replace F8 := Lib.hid (F8.out.upb Dw9.out)
      clear Dw9 b9
      have F8q0 := F8.out.c0
      have F8q1 := F8.out.c1
      have F8q2 := F8.out.c2
      have F8q3 := F8.out.c3
      have hcv1 := T10.out.conv
      have hcv2 := HI.out.conv
      go_wp2_with (fail)
      refine (Check_is z 0 _ Any _ (HZ.out.2.2.2 hlen2).1 (HZ.out.2.2.2 hlen2).2 V8.out HZ.out.2.1).mono ?_
      rintro e wA ⟨rfl, bA⟩
      have BA := Lib.hid (B.out.upb bA)
      clear bA hcv1 hcv2
      clear F8q0 F8q1 F8q2 F8q3
      go_wp2_with (fail)
      go_ret
      exact ⟨rfl, BA.out⟩
    · have HZ := Lib.hid HZ0
      clear HZ0
      refine (Decode_bad _ bs _ HI.out (by omega) HZ.out).mono ?_
      rintro e w8 ⟨A8, c8, rfl, hv8, b8⟩
      have V8 := Lib.hid hv8
      clear hv8
      have Dw8 := Lib.hid (b8)
      replace HI := Lib.hid (HI.out.upb Dw8.out)
      replace HV := Lib.hid (HV.out.upb Dw8.out)
      replace F := Lib.hid (F.out.upb Dw8.out)
      replace B := Lib.hid (B.out.upb Dw8.out)
      replace T1 := Lib.hid (T1.out.upb Dw8.out)
      replace V5 := Lib.hid (V5.out.upb Dw8.out)
      replace F5 := Lib.hid (F5.out.upb Dw8.out)
      clear Dw8 b8
      have F8 := Lib.hid (Four.new w8 (.int .i64 0) (.int .i64 0) (.string ByteArray.empty) (.slice A8 0 c8))
      have DX := Lib.hid (blw1 w8 (.cells #[.int .i64 0, .int .i64 0, .string ByteArray.empty, .slice A8 0 c8] 24))
      replace HI := Lib.hid (HI.out.upb DX.out)
      replace HV := Lib.hid (HV.out.upb DX.out)
      replace F := Lib.hid (F.out.upb DX.out)
      replace B := Lib.hid (B.out.upb DX.out)
      replace T1 := Lib.hid (T1.out.upb DX.out)
      replace V5 := Lib.hid (V5.out.upb DX.out)
      replace F5 := Lib.hid (F5.out.upb DX.out)
      replace V8 := Lib.hid (V8.out.upb DX.out)
      have q0 := F8.out.c0
      have q1 := F8.out.c1
      have q2 := F8.out.c2
      have q3 := F8.out.c3
      go_wp2_with (fail)
      refine (same_self (.mk 0 0 ByteArray.empty []) _ _ Any Any _ (by simp [Cd.fits_mk]) V8.out (IsV.of IsVs.nil)).mono ?_
      rintro e wA ⟨rfl, bA⟩
      have BA := Lib.hid (B.out.upb bA)
      clear bA DX q0 q1 q2 q3
      go_wp2_with (fail)
      go_ret
      exact ⟨rfl, BA.out⟩
  · have hne : (ck == 0) = false := by rw [beq_eq_false_iff_ne]; exact hck
    clear hck
    clear Fq0 Fq1 Fq2 Fq3
    go_wp2_with (fail)
    clear hne
    rcases HCR.out with ⟨z, HZ0⟩ | HZ0
    · have HZ := Lib.hid HZ0
      clear HZ0
      refine (Decode_ok _ bs z _ HI.out (by omega) HZ.out.1).mono ?_
      rintro e w5 ⟨A8, c8, rfl, hv8, b5⟩
      have V8 := Lib.hid hv8
      clear hv8
      have Dw5 := Lib.hid (b5)
      replace HI := Lib.hid (HI.out.upb Dw5.out)
      replace HV := Lib.hid (HV.out.upb Dw5.out)
      replace F := Lib.hid (F.out.upb Dw5.out)
      replace B := Lib.hid (B.out.upb Dw5.out)
      replace T1 := Lib.hid (T1.out.upb Dw5.out)
      clear Dw5 b5
      have F8 := Lib.hid (Four.new w5 (.int .i64 z.kind) (.int .i64 z.num) (.string z.str) (.slice A8 z.elems.length c8))
      have DX := Lib.hid (blw1 w5 (.cells #[.int .i64 z.kind, .int .i64 z.num, .string z.str, .slice A8 z.elems.length c8] 24))
      replace HI := Lib.hid (HI.out.upb DX.out)
      replace HV := Lib.hid (HV.out.upb DX.out)
      replace F := Lib.hid (F.out.upb DX.out)
      replace B := Lib.hid (B.out.upb DX.out)
      replace T1 := Lib.hid (T1.out.upb DX.out)
      replace V8 := Lib.hid (V8.out.upb DX.out)
      have q0 := F8.out.c0
      have q1 := F8.out.c1
      have q2 := F8.out.c2
      have q3 := F8.out.c3
      go_wp2_with (fail)
      generalize hX9 : w5.alloc (.cells #[.int .i64 z.kind, .int .i64 z.num, .string z.str, .slice A8 z.elems.length c8] 24) = X9 at *
      clear hX9 DX q0 q1 q2 q3
      refine (Encode_is z _ Any _ bs (HZ.out.2.2.2 hlen2).1 (HZ.out.2.2.2 hlen2).2 HZ.out.2.1 HZ.out.2.2.1 V8.out (by omega)).mono ?_
      rintro e w6 ⟨A10, c10, rfl, bt10, b6⟩
      have T10 := Lib.hid bt10
      clear bt10
      have Dw6 := Lib.hid (b6)
      replace HI := Lib.hid (HI.out.upb Dw6.out)
      replace HV := Lib.hid (HV.out.upb Dw6.out)
      replace F := Lib.hid (F.out.upb Dw6.out)
      replace B := Lib.hid (B.out.upb Dw6.out)
      replace T1 := Lib.hid (T1.out.upb Dw6.out)
      replace V8 := Lib.hid (V8.out.upb Dw6.out)
      replace F8 := Lib.hid (F8.out.upb Dw6.out)
      clear Dw6 b6
      have F8q0 := F8.out.c0
      have F8q1 := F8.out.c1
      have F8q2 := F8.out.c2
      have F8q3 := F8.out.c3
      have hcv1 := T10.out.conv
      have hcv2 := HI.out.conv
      go_wp2_with (fail)
      refine (Check_is z 0 _ Any _ (HZ.out.2.2.2 hlen2).1 (HZ.out.2.2.2 hlen2).2 V8.out HZ.out.2.1).mono ?_
      rintro e wA ⟨rfl, bA⟩
      have BA := Lib.hid (B.out.upb bA)
      clear bA hcv1 hcv2
      clear F8q0 F8q1 F8q2 F8q3
      go_wp2_with (fail)
      go_ret
      exact ⟨rfl, BA.out⟩
    · have HZ := Lib.hid HZ0
      clear HZ0
      refine (Decode_bad _ bs _ HI.out (by omega) HZ.out).mono ?_
      rintro e w5 ⟨A8, c8, rfl, hv8, b5⟩
      have V8 := Lib.hid hv8
      clear hv8
      have Dw5 := Lib.hid (b5)
      replace HI := Lib.hid (HI.out.upb Dw5.out)
      replace HV := Lib.hid (HV.out.upb Dw5.out)
      replace F := Lib.hid (F.out.upb Dw5.out)
      replace B := Lib.hid (B.out.upb Dw5.out)
      replace T1 := Lib.hid (T1.out.upb Dw5.out)
      clear Dw5 b5
      have F8 := Lib.hid (Four.new w5 (.int .i64 0) (.int .i64 0) (.string ByteArray.empty) (.slice A8 0 c8))
      have DX := Lib.hid (blw1 w5 (.cells #[.int .i64 0, .int .i64 0, .string ByteArray.empty, .slice A8 0 c8] 24))
      replace HI := Lib.hid (HI.out.upb DX.out)
      replace HV := Lib.hid (HV.out.upb DX.out)
      replace F := Lib.hid (F.out.upb DX.out)
      replace B := Lib.hid (B.out.upb DX.out)
      replace T1 := Lib.hid (T1.out.upb DX.out)
      replace V8 := Lib.hid (V8.out.upb DX.out)
      have q0 := F8.out.c0
      have q1 := F8.out.c1
      have q2 := F8.out.c2
      have q3 := F8.out.c3
      go_wp2_with (fail)
      refine (same_self (.mk 0 0 ByteArray.empty []) _ _ Any Any _ (by simp [Cd.fits_mk]) V8.out (IsV.of IsVs.nil)).mono ?_
      rintro e wA ⟨rfl, bA⟩
      have BA := Lib.hid (B.out.upb bA)
      clear bA DX q0 q1 q2 q3
      go_wp2_with (fail)
      go_ret
      exact ⟨rfl, BA.out⟩

end Go.Proofs.Ytnnddmhimnekaaa

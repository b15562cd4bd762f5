/- Walk of the statements' examples. -/
import Derived.Test.YtchjjcmlekknfaaW17
namespace Go.Proofs.Ytchjjcmlekknfaa
open Go.RowKit
set_option linter.unusedVariables false
set_option linter.unusedSimpArgs false

def zeros (n : Nat) : Array Value := madeCells #[.int .i64 0] n

theorem make_ints (n : Nat) (hn : n ≤ 1048576) (w : World) : (Instr.makeSlice 22 (.int .i64 (n : Int)) (.int .i64 (n : Int))).run Try.prog w = .ok (.slice (some ⟨w.heap.size, 0, none⟩) n n) (w.alloc (.cells (zeros n) 3)) := by
  obtain ⟨i0, hi, hz0, hz1, hz2⟩ := info_parts infoInt
  have hb : (i0.bytes : Int) * (n : Int) ≤ 281474976710656 := by rw [hz2]; omega
  have hr := run_make (P := Try.prog) w 22 3 i0 _ Try.underlying22 hi hz0 .i64 .i64 n n (by omega) (by omega) hb (by omega)
  simp only [Int.toNat_natCast] at hr
  rw [hr, hz1, Nat.mul_one]
  rfl


theorem zeros_eq (n : Nat) : zeros n = ((List.replicate n (0 : Int)).map (Value.int .i64)).toArray := by
  apply Array.ext
  · simp [zeros, madeCells]
  · intro i h1 h2
    simp [zeros, madeCells, Nat.mod_one]

theorem lit_at {W : World} {B : Nat} (hB : W.heap.size = B) (xs : List Int) (n : Nat) (cs : Array Value) (hn : n = xs.length) (hc : cs = (xs.map (Value.int .i64)).toArray) : IsInts (W.alloc (.cells cs 3)) (.slice (some ⟨B, 0, none⟩) n n) xs := by
  subst hB; exact ints_lit' W xs n cs hn hc

set_option maxHeartbeats 4000000 in
set_option maxRecDepth 100000 in
theorem sane_any (w : World) : Calls Try.prog 9 #[] w fun e w' => e = .returned (.bool true) ∧ Below w.heap.size w w' := by
  have HB0 := Lib.hid (Below.refl w.heap.size w)
  have hmk : ∀ W, (Instr.makeSlice 22 (.int .i64 65) (.int .i64 65)).run Try.prog W = .ok (.slice (some ⟨W.heap.size, 0, none⟩) 65 65) (W.alloc (.cells (zeros 65) 3)) := fun W => make_ints 65 (by omega) W
  go_enter Try.func9, Try.ntmps9
  go_wp2_with (fail)

  refine (grp_call (r := [0]) (d := []) (m := 1) (f := 0) (e0 := 480) (L := []) (D := 0) (lit_at (W := w) (B := w.heap.size) rfl [0] 1 _ rfl rfl) IsInts.nil (by decide) (by decide) (by decide +kernel) (by decide +kernel) (by decide +kernel)).mono ?_
  rintro e w1 ⟨A1, k1, rfl, _, b1⟩
  have HB1 := Lib.hid ((HB0.out.up (al1 _ (.cells #[.int .i64 0] 3))).up b1)
  clear b1 HB0
  go_wp2_with (fail)
  refine (grp_call (r := []) (d := []) (m := 9) (f := 0) (e0 := 480) (L := []) (D := 0) IsInts.nil IsInts.nil (by decide) (by decide) (by decide +kernel) (by decide +kernel) (by decide +kernel)).mono ?_
  rintro e w2 ⟨A2, k2, rfl, _, b2⟩
  have HB2 := Lib.hid (HB1.out.up b2)
  clear b2 HB1
  go_wp2_with (fail)
  refine (prv_call (r := [1, 0]) (d := [0, 0]) (m := 1) (f := 0) (e0 := 480) (L := []) ((lit_at (W := w2) (B := w2.heap.size) rfl [1, 0] 2 _ rfl rfl).upb (al1 _ (.cells #[.int .i64 0, .int .i64 0] 3))) (lit_at (W := (w2.alloc (.cells #[.int .i64 1, .int .i64 0] 3))) (B := w2.heap.size + 1) (by simp) [0, 0] 2 _ rfl rfl) (by decide) (by decide) (by decide +kernel) (by decide +kernel)).mono ?_
  rintro e w3 ⟨A3, k3, rfl, _, b3⟩
  have HB3 := Lib.hid (((HB2.out.up (al1 _ (.cells #[.int .i64 1, .int .i64 0] 3))).up (al1 _ (.cells #[.int .i64 0, .int .i64 0] 3))).up b3)
  clear b3 HB2
  go_wp2_with (fail)
  have hz65 : IsInts (w3.alloc (.cells (zeros 65) 3)) (.slice (some ⟨w3.heap.size, 0, none⟩) 65 65) (List.replicate 65 0) := lit_at rfl _ 65 _ (by simp) (zeros_eq 65)
  refine (grp_call (r := List.replicate 65 0) (d := []) (m := 9) (f := 0) (e0 := 2) (L := []) (D := 0) hz65 IsInts.nil (by simp) (by decide) (by decide +kernel) (by decide +kernel) (by decide +kernel)).mono ?_
  rintro e w4 ⟨A4, k4, rfl, _, b4⟩
  have HB4 := Lib.hid ((HB3.out.up (al1 _ (.cells (zeros 65) 3))).up b4)
  clear b4 HB3 hz65 hmk
  go_wp2_with (fail)
  refine (acc_call (r := [0, 10]) (d := [5, 5]) (m := 2) (f := 0) (es := [2]) (h := [0, 5, 20]) (e0 := 0) (b := false) ((((lit_at (W := w4) (B := w4.heap.size) rfl [0, 10] 2 _ rfl rfl).upb (al1 _ (.cells #[.int .i64 5, .int .i64 5] 3))).upb (al1 _ (.cells #[.int .i64 2] 3))).upb (al1 _ (.cells #[.int .i64 0, .int .i64 5, .int .i64 20] 3))) (((lit_at (W := (w4.alloc (.cells #[.int .i64 0, .int .i64 10] 3))) (B := w4.heap.size + 1) (by simp) [5, 5] 2 _ rfl rfl).upb (al1 _ (.cells #[.int .i64 2] 3))).upb (al1 _ (.cells #[.int .i64 0, .int .i64 5, .int .i64 20] 3))) ((lit_at (W := ((w4.alloc (.cells #[.int .i64 0, .int .i64 10] 3)).alloc (.cells #[.int .i64 5, .int .i64 5] 3))) (B := w4.heap.size + 1 + 1) (by simp) [2] 1 _ rfl rfl).upb (al1 _ (.cells #[.int .i64 0, .int .i64 5, .int .i64 20] 3))) (lit_at (W := (((w4.alloc (.cells #[.int .i64 0, .int .i64 10] 3)).alloc (.cells #[.int .i64 5, .int .i64 5] 3)).alloc (.cells #[.int .i64 2] 3))) (B := w4.heap.size + 1 + 1 + 1) (by simp) [0, 5, 20] 3 _ rfl rfl) (by decide) (by decide) (by decide) (by decide) (by decide +kernel) (by decide +kernel)).mono ?_
  rintro e w5 ⟨rfl, b5⟩
  have HB5 := Lib.hid (((((HB4.out.up (al1 _ (.cells #[.int .i64 0, .int .i64 10] 3))).up (al1 _ (.cells #[.int .i64 5, .int .i64 5] 3))).up (al1 _ (.cells #[.int .i64 2] 3))).up (al1 _ (.cells #[.int .i64 0, .int .i64 5, .int .i64 20] 3))).up b5)
  clear b5 HB4
  go_wp2_with (fail)
  have HBO := Lib.hid (((lit_at (W := w5) (B := w5.heap.size) rfl [5, 5] 2 _ rfl rfl).upb (al1 _ (.cells #[.int .i64 1, .int .i64 2] 3))).upb (al1 _ (.cells #[.int .i64 0] 3)))
  have HAP := Lib.hid ((lit_at (W := (w5.alloc (.cells #[.int .i64 5, .int .i64 5] 3))) (B := w5.heap.size + 1) (by simp) [1, 2] 2 _ rfl rfl).upb (al1 _ (.cells #[.int .i64 0] 3)))
  refine (is_any (r := []) (d := []) (es := []) (h := [0]) (m := 1) (f := 0) (dn := 0) IsInts.nil IsInts.nil IsInts.nil (lit_at (W := ((w5.alloc (.cells #[.int .i64 5, .int .i64 5] 3)).alloc (.cells #[.int .i64 1, .int .i64 2] 3))) (B := w5.heap.size + 1 + 1) (by simp) [0] 1 _ rfl rfl) (by decide) (by decide) (by decide) (by decide) (by decide +kernel) (by decide +kernel) (by decide +kernel) (by decide +kernel) (by decide +kernel)).mono ?_
  rintro e w6 ⟨rfl, b6⟩
  have HB6 := Lib.hid ((((HB5.out.up (al1 _ (.cells #[.int .i64 5, .int .i64 5] 3))).up (al1 _ (.cells #[.int .i64 1, .int .i64 2] 3))).up (al1 _ (.cells #[.int .i64 0] 3))).up b6)
  replace HBO := Lib.hid (HBO.out.upb b6)
  replace HAP := Lib.hid (HAP.out.upb b6)
  clear b6 HB5
  go_wp2_with (fail)
  refine (is_any (r := [5]) (d := [3]) (es := [1]) (h := [0, 8]) (m := 1) (f := 0) (dn := 8) ((((lit_at (W := w6) (B := w6.heap.size) rfl [5] 1 _ rfl rfl).upb (al1 _ (.cells #[.int .i64 3] 3))).upb (al1 _ (.cells #[.int .i64 1] 3))).upb (al1 _ (.cells #[.int .i64 0, .int .i64 8] 3))) (((lit_at (W := (w6.alloc (.cells #[.int .i64 5] 3))) (B := w6.heap.size + 1) (by simp) [3] 1 _ rfl rfl).upb (al1 _ (.cells #[.int .i64 1] 3))).upb (al1 _ (.cells #[.int .i64 0, .int .i64 8] 3))) ((lit_at (W := ((w6.alloc (.cells #[.int .i64 5] 3)).alloc (.cells #[.int .i64 3] 3))) (B := w6.heap.size + 1 + 1) (by simp) [1] 1 _ rfl rfl).upb (al1 _ (.cells #[.int .i64 0, .int .i64 8] 3))) (lit_at (W := (((w6.alloc (.cells #[.int .i64 5] 3)).alloc (.cells #[.int .i64 3] 3)).alloc (.cells #[.int .i64 1] 3))) (B := w6.heap.size + 1 + 1 + 1) (by simp) [0, 8] 2 _ rfl rfl) (by decide) (by decide) (by decide) (by decide) (by decide +kernel) (by decide +kernel) (by decide +kernel) (by decide +kernel) (by decide +kernel)).mono ?_
  rintro e w7 ⟨rfl, b7⟩
  have HB7 := Lib.hid (((((HB6.out.up (al1 _ (.cells #[.int .i64 5] 3))).up (al1 _ (.cells #[.int .i64 3] 3))).up (al1 _ (.cells #[.int .i64 1] 3))).up (al1 _ (.cells #[.int .i64 0, .int .i64 8] 3))).up b7)
  replace HBO := Lib.hid (((((HBO.out.upb (al1 _ (.cells #[.int .i64 5] 3))).upb (al1 _ (.cells #[.int .i64 3] 3))).upb (al1 _ (.cells #[.int .i64 1] 3))).upb (al1 _ (.cells #[.int .i64 0, .int .i64 8] 3))).upb b7)
  replace HAP := Lib.hid (((((HAP.out.upb (al1 _ (.cells #[.int .i64 5] 3))).upb (al1 _ (.cells #[.int .i64 3] 3))).upb (al1 _ (.cells #[.int .i64 1] 3))).upb (al1 _ (.cells #[.int .i64 0, .int .i64 8] 3))).upb b7)
  clear b7 HB6
  go_wp2_with (fail)
  refine (is_any (r := [0, 10]) (d := [5, 5]) (es := [1, 2]) (h := [0, 5, 15]) (m := 2) (f := 0) (dn := 15) ((lit_at (W := w7) (B := w7.heap.size) rfl [0, 10] 2 _ rfl rfl).upb (al1 _ (.cells #[.int .i64 0, .int .i64 5, .int .i64 15] 3))) ((HBO.out.upb (al1 _ (.cells #[.int .i64 0, .int .i64 10] 3))).upb (al1 _ (.cells #[.int .i64 0, .int .i64 5, .int .i64 15] 3))) ((HAP.out.upb (al1 _ (.cells #[.int .i64 0, .int .i64 10] 3))).upb (al1 _ (.cells #[.int .i64 0, .int .i64 5, .int .i64 15] 3))) (lit_at (W := (w7.alloc (.cells #[.int .i64 0, .int .i64 10] 3))) (B := w7.heap.size + 1) (by simp) [0, 5, 15] 3 _ rfl rfl) (by decide) (by decide) (by decide) (by decide) (by decide +kernel) (by decide +kernel) (by decide +kernel) (by decide +kernel) (by decide +kernel)).mono ?_
  rintro e w8 ⟨rfl, b8⟩
  have HB8 := Lib.hid (((HB7.out.up (al1 _ (.cells #[.int .i64 0, .int .i64 10] 3))).up (al1 _ (.cells #[.int .i64 0, .int .i64 5, .int .i64 15] 3))).up b8)
  replace HBO := Lib.hid (((HBO.out.upb (al1 _ (.cells #[.int .i64 0, .int .i64 10] 3))).upb (al1 _ (.cells #[.int .i64 0, .int .i64 5, .int .i64 15] 3))).upb b8)
  replace HAP := Lib.hid (((HAP.out.upb (al1 _ (.cells #[.int .i64 0, .int .i64 10] 3))).upb (al1 _ (.cells #[.int .i64 0, .int .i64 5, .int .i64 15] 3))).upb b8)
  clear b8 HB7
  go_wp2_with (fail)
  refine (is_any (r := [0, 0]) (d := [5, 5]) (es := [2]) (h := [0, 5, 10]) (m := 2) (f := 3) (dn := 10) (((lit_at (W := w8) (B := w8.heap.size) rfl [0, 0] 2 _ rfl rfl).upb (al1 _ (.cells #[.int .i64 2] 3))).upb (al1 _ (.cells #[.int .i64 0, .int .i64 5, .int .i64 10] 3))) (((HBO.out.upb (al1 _ (.cells #[.int .i64 0, .int .i64 0] 3))).upb (al1 _ (.cells #[.int .i64 2] 3))).upb (al1 _ (.cells #[.int .i64 0, .int .i64 5, .int .i64 10] 3))) ((lit_at (W := (w8.alloc (.cells #[.int .i64 0, .int .i64 0] 3))) (B := w8.heap.size + 1) (by simp) [2] 1 _ rfl rfl).upb (al1 _ (.cells #[.int .i64 0, .int .i64 5, .int .i64 10] 3))) (lit_at (W := ((w8.alloc (.cells #[.int .i64 0, .int .i64 0] 3)).alloc (.cells #[.int .i64 2] 3))) (B := w8.heap.size + 1 + 1) (by simp) [0, 5, 10] 3 _ rfl rfl) (by decide) (by decide) (by decide) (by decide) (by decide +kernel) (by decide +kernel) (by decide +kernel) (by decide +kernel) (by decide +kernel)).mono ?_
  rintro e w9 ⟨rfl, b9⟩
  have HB9 := Lib.hid ((((HB8.out.up (al1 _ (.cells #[.int .i64 0, .int .i64 0] 3))).up (al1 _ (.cells #[.int .i64 2] 3))).up (al1 _ (.cells #[.int .i64 0, .int .i64 5, .int .i64 10] 3))).up b9)
  replace HBO := Lib.hid ((((HBO.out.upb (al1 _ (.cells #[.int .i64 0, .int .i64 0] 3))).upb (al1 _ (.cells #[.int .i64 2] 3))).upb (al1 _ (.cells #[.int .i64 0, .int .i64 5, .int .i64 10] 3))).upb b9)
  replace HAP := Lib.hid ((((HAP.out.upb (al1 _ (.cells #[.int .i64 0, .int .i64 0] 3))).upb (al1 _ (.cells #[.int .i64 2] 3))).upb (al1 _ (.cells #[.int .i64 0, .int .i64 5, .int .i64 10] 3))).upb b9)
  clear b9 HB8
  go_wp2_with (fail)
  refine (is_any (r := [0, 0]) (d := [5, 5]) (es := [1, 2]) (h := [0, 5, 13]) (m := 1) (f := 3) (dn := 13) ((lit_at (W := w9) (B := w9.heap.size) rfl [0, 0] 2 _ rfl rfl).upb (al1 _ (.cells #[.int .i64 0, .int .i64 5, .int .i64 13] 3))) ((HBO.out.upb (al1 _ (.cells #[.int .i64 0, .int .i64 0] 3))).upb (al1 _ (.cells #[.int .i64 0, .int .i64 5, .int .i64 13] 3))) ((HAP.out.upb (al1 _ (.cells #[.int .i64 0, .int .i64 0] 3))).upb (al1 _ (.cells #[.int .i64 0, .int .i64 5, .int .i64 13] 3))) (lit_at (W := (w9.alloc (.cells #[.int .i64 0, .int .i64 0] 3))) (B := w9.heap.size + 1) (by simp) [0, 5, 13] 3 _ rfl rfl) (by decide) (by decide) (by decide) (by decide) (by decide +kernel) (by decide +kernel) (by decide +kernel) (by decide +kernel) (by decide +kernel)).mono ?_
  rintro e w10 ⟨rfl, b10⟩
  have HB10 := Lib.hid (((HB9.out.up (al1 _ (.cells #[.int .i64 0, .int .i64 0] 3))).up (al1 _ (.cells #[.int .i64 0, .int .i64 5, .int .i64 13] 3))).up b10)
  replace HBO := Lib.hid (((HBO.out.upb (al1 _ (.cells #[.int .i64 0, .int .i64 0] 3))).upb (al1 _ (.cells #[.int .i64 0, .int .i64 5, .int .i64 13] 3))).upb b10)
  replace HAP := Lib.hid (((HAP.out.upb (al1 _ (.cells #[.int .i64 0, .int .i64 0] 3))).upb (al1 _ (.cells #[.int .i64 0, .int .i64 5, .int .i64 13] 3))).upb b10)
  clear b10 HB9
  go_wp2_with (fail)
  go_ret
  exact ⟨rfl, HB10.out⟩
end Go.Proofs.Ytchjjcmlekknfaa

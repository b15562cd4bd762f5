/- Walks of both Accepts, and of the helpers of the statements. -/
import Derived.Test.YtagbdjdphghflaaW5
namespace Go.Proofs.Ytagbdjdphghflaa
open Go.RowKit

def accR (c : Int) (xs ls : List Int) : Bool := decide (Pl.err c xs = 0) && decide (divideR c xs = ls)

set_option maxHeartbeats 1000000 in
theorem Accepts_any (c : Int) (v u : Value) (xs ls : List Int) (w : World) (hv : IsInts w v xs) (hu : IsInts w u ls) (hl : xs.length ≤ 9223372036854775807) (hl2 : ls.length ≤ 9223372036854775807) :
    Calls Try.prog 15 #[.int .i64 c, v, u] w fun e w' => e = .returned (.tuple #[.bool (accR c xs ls), .int .i64 (Pl.err c xs)]) ∧ Below w.heap.size w w' := by
  have HV := Lib.hid hv
  have HU := Lib.hid hu
  obtain ⟨A, cap, rfl, hr⟩ := hv
  obtain ⟨A2, cap2, rfl, hr2⟩ := hu
  clear hr hr2
  by_cases he : Pl.err c xs = 0
  · have hdl : (divideR c xs).length ≤ 9223372036854775807 := by
      unfold divideR Pl.divide; rw [if_pos he, Pl.dv_length]; exact hl
    have HE := Lib.hid he
    have HA := Lib.hid (show accR c xs ls = decide (divideR c xs = ls) by simp [accR, he])
    clear he
    go_enter Try.func15, Try.ntmps15
    go_wp2_with (fail)
    refine (Divide_any c _ xs _ HV.out hl).mono ?_
    rintro e w1 ⟨⟨x, rfl, hx⟩, hb1⟩
    rw [HE.out]
    have HX := Lib.hid hx
    obtain ⟨A3, cap3, rfl, hr3⟩ := hx
    clear hr3
    go_wp2_with (fail)
    refine (equal_any _ _ (divideR c xs) ls _ HX.out (HU.out.below hb1) hdl hl2).mono ?_
    rintro e w2 ⟨rfl, q, rfl⟩
    go_wp2_with (fail)
    go_ret2
    exact ⟨by rw [HA.out, HE.out]; rfl, below_drewN hb1 _⟩
  · have hne : (Pl.err c xs == 0) = false := by simpa using he
    have HA := Lib.hid (show accR c xs ls = false by simp [accR, he])
    go_enter Try.func15, Try.ntmps15
    go_wp2_with (fail)
    refine (Divide_any c _ xs _ HV.out hl).mono ?_
    rintro e w1 ⟨⟨x, rfl, hx⟩, hb1⟩
    obtain ⟨A3, cap3, rfl, hr3⟩ := hx
    clear hr3
    go_wp2_with (fail)
    go_ret2
    exact ⟨by rw [HA.out]; rfl, hb1⟩

set_option maxHeartbeats 1000000 in
theorem refAccepts_any (c : Int) (v u : Value) (xs ls : List Int) (w : World) (hv : IsInts w v xs) (hu : IsInts w u ls) (hl : xs.length ≤ 9223372036854775807) (hl2 : ls.length ≤ 9223372036854775807) :
    Calls Try.prog 16 #[.int .i64 c, v, u] w fun e w' => e = .returned (.tuple #[.bool (accR c xs ls), .int .i64 (Pl.err c xs)]) ∧ Below w.heap.size w w' := by
  have HV := Lib.hid hv
  have HU := Lib.hid hu
  obtain ⟨A, cap, rfl, hr⟩ := hv
  obtain ⟨A2, cap2, rfl, hr2⟩ := hu
  clear hr hr2
  by_cases he : Pl.err c xs = 0
  · have hdl : (divideR c xs).length ≤ 9223372036854775807 := by
      unfold divideR Pl.divide; rw [if_pos he, Pl.dv_length]; exact hl
    have HE := Lib.hid he
    have HA := Lib.hid (show accR c xs ls = decide (divideR c xs = ls) by simp [accR, he])
    clear he
    go_enter Try.func16, Try.ntmps16
    go_wp2_with (fail)
    refine (refDivide_any c _ xs _ HV.out hl).mono ?_
    rintro e w1 ⟨⟨x, rfl, hx⟩, hb1⟩
    rw [HE.out]
    have HX := Lib.hid hx
    obtain ⟨A3, cap3, rfl, hr3⟩ := hx
    clear hr3
    go_wp2_with (fail)
    refine (sameInts_any _ _ (divideR c xs) ls _ HX.out (HU.out.below hb1) hdl hl2).mono ?_
    rintro e w2 ⟨rfl, q, rfl⟩
    go_wp2_with (fail)
    go_ret2
    exact ⟨by rw [HA.out, HE.out]; rfl, below_drewN hb1 _⟩
  · have hne : (Pl.err c xs != 0) = true := by simpa using he
    have HA := Lib.hid (show accR c xs ls = false by simp [accR, he])
    go_enter Try.func16, Try.ntmps16
    go_wp2_with (fail)
    refine (refDivide_any c _ xs _ HV.out hl).mono ?_
    rintro e w1 ⟨⟨x, rfl, hx⟩, hb1⟩
    obtain ⟨A3, cap3, rfl, hr3⟩ := hx
    clear hr3
    go_wp2_with (fail)
    go_ret2
    exact ⟨by rw [HA.out]; rfl, hb1⟩

set_option maxHeartbeats 1000000 in
theorem divided_no (c : Int) (v : Value) (xs : List Int) (w : World) (hv : IsInts w v xs) (hl : xs.length ≤ 9223372036854775807) (he : Pl.err c xs ≠ 0) :
    Calls Try.prog 17 #[.int .i64 c, v] w fun e w' => e = .returned (.tuple #[.slice none 0 0, .bool false, .bool true]) ∧ Below w.heap.size w w' := by
  have HV := Lib.hid hv
  obtain ⟨A, cap, rfl, hr⟩ := hv
  clear hr
  have hne : (Pl.err c xs != 0) = true := by simpa using he
  go_enter Try.func17, Try.ntmps17
  go_wp2_with (fail)
  refine (refError_any c _ xs _ HV.out hl).mono ?_
  rintro e w1 ⟨rfl, rfl⟩
  go_wp2_with (fail)
  go_ret3
  exact ⟨rfl, Below.refl _ _⟩

set_option maxHeartbeats 1000000 in
theorem divided_yes (c : Int) (v : Value) (xs : List Int) (w : World) (hv : IsInts w v xs) (hl : xs.length ≤ 9223372036854775807) (he : Pl.err c xs = 0) :
    Calls Try.prog 17 #[.int .i64 c, v] w fun e w' => (∃ u, e = .returned (.tuple #[u, .bool true, .bool true]) ∧ IsInts w' u (Pl.divide c xs)) ∧ Below w.heap.size w w' := by
  have HV := Lib.hid hv
  obtain ⟨A, cap, rfl, hr⟩ := hv
  have hdl : (divideR c xs).length = xs.length := by
      unfold divideR Pl.divide; rw [if_pos he, Pl.dv_length]
  have HDR := Lib.hid (show divideR c xs = Pl.divide c xs by simp [divideR, he])
  have HE := Lib.hid he
  have HDL := Lib.hid hdl
  clear he hr hdl
  go_enter Try.func17, Try.ntmps17
  go_wp2_with (fail)
  refine (refError_any c _ xs _ HV.out hl).mono ?_
  rintro e w1 ⟨rfl, rfl⟩
  rw [HE.out]
  go_wp2_with (fail)
  refine (Divide_any c _ xs _ HV.out hl).mono ?_
  rintro e w1 ⟨⟨x, rfl, hx⟩, hb1⟩
  rw [HE.out]
  rw [HDR.out] at hx
  have HX := Lib.hid hx
  obtain ⟨A3, cap3, rfl, hr3⟩ := hx
  rw [HDR.out] at HDL
  have hbq : (((Pl.divide c xs).length : Int) == (xs.length : Int)) = true := by rw [HDL.out]; simp
  clear hr3
  go_wp2_with (fail)
  go_ret3
  exact ⟨⟨_, rfl, HX.out⟩, hb1⟩

set_option maxHeartbeats 1000000 in
theorem is_any (c lv : Int) (v u : Value) (xs ls : List Int) (w : World) (hv : IsInts w v xs) (hu : IsInts w u ls) (hl : xs.length ≤ 32) (hl2 : ls.length ≤ 32) (he : Pl.err c xs = 0) (hd : Pl.divide c xs = ls) (hlv : Pl.level c xs = lv) :
    Calls Try.prog 18 #[.int .i64 c, v, u, .int .i64 lv] w fun e w' => e = .returned (.bool true) ∧ Below w.heap.size w w' := by
  have HV := Lib.hid hv
  have HU := Lib.hid hu
  obtain ⟨A, cap, rfl, hr⟩ := hv
  obtain ⟨A2, cap2, rfl, hr2⟩ := hu
  have HDR := Lib.hid (show divideR c xs = ls by simp [divideR, he, hd])
  have HLR := Lib.hid (show levelR c xs = lv by simp [levelR, he, hlv])
  have HAR := Lib.hid (show accR c xs ls = true by simp [accR, HDR.out, he])
  have HE := Lib.hid he
  clear hr hr2 he hd hlv
  go_enter Try.func18, Try.ntmps18
  go_wp2_with (fail)
  refine (Divide_any c _ xs _ HV.out (by omega)).mono ?_
  rintro e w1 ⟨⟨x, rfl, hx⟩, hb1⟩
  rw [HE.out]
  rw [HDR.out] at hx
  have HX := Lib.hid hx
  obtain ⟨A3, cap3, rfl, hr3⟩ := hx
  clear hr3
  go_wp2_with (fail)
  refine (Level_any c _ xs _ (HV.out.below hb1) (by omega)).mono ?_
  rintro e w2 ⟨rfl, hb2⟩
  rw [HE.out, HLR.out]
  have hb12 := hb1.up hb2
  go_wp2_with (fail)
  refine (Accepts_any c _ _ xs ls _ (HV.out.below hb12) (HU.out.below hb12) (by omega) (by omega)).mono ?_
  rintro e w3 ⟨rfl, hb3⟩
  rw [HE.out, HAR.out]
  go_wp2_with (fail)
  refine (sameInts_any _ _ ls ls _ (HX.out.below (hb2.up hb3)) (HU.out.below (hb12.up hb3)) (by omega) (by omega)).mono ?_
  rintro e w4 ⟨rfl, q, rfl⟩
  rw [show decide (ls = ls) = true by simp]
  go_wp2_with (fail)
  go_ret
  exact ⟨by simp, below_drewN (hb12.up hb3) _⟩

theorem ints_lit (w : World) (xs : List Int) : IsInts (w.alloc (.cells (xs.map (Value.int .i64)).toArray 3)) (.slice (some ⟨w.heap.size, 0, none⟩) xs.length xs.length) xs :=
  ⟨_, _, rfl, fun _ => ⟨_, _, rfl, by simp, fun i hi => by
    have := cell_of_row (w.alloc (.cells (xs.map (Value.int .i64)).toArray 3)) w.heap.size i (xs.map (Value.int .i64)).toArray 3 (0, 0) (heap_alloc_new w _)
    rw [Nat.zero_add, this]
    simp at hi
    simp [hi]⟩⟩

theorem ints_lit' (w : World) (xs : List Int) (n : Nat) (cs : Array Value) (hn : n = xs.length) (hc : cs = (xs.map (Value.int .i64)).toArray) : IsInts (w.alloc (.cells cs 3)) (.slice (some ⟨w.heap.size, 0, none⟩) n n) xs := by
  subst hn hc; exact ints_lit w xs

def zeros33 : Array Value := ((List.replicate 33 (0 : Int)).map (Value.int .i64)).toArray
theorem make33 (w : World) : (Instr.makeSlice 22 (.int .i64 33) (.int .i64 33)).run Try.prog w = .ok (.slice (some ⟨w.heap.size, 0, none⟩) 33 33) (w.alloc (.cells zeros33 3)) := by kernel_rfl

set_option maxHeartbeats 2000000 in
set_option maxRecDepth 100000 in
theorem sane_any (w : World) : Calls Try.prog 9 #[] w fun e w' => e = .returned (.bool true) ∧ Below w.heap.size w w' := by
  have hmk := make33
  go_enter Try.func9, Try.ntmps9
  go_wp2_with (fail)
  refine (Accepts_any 10 _ _ [2, 9, 9] [2, 5, 3] _ ((ints_lit' w [2, 9, 9] 3 _ rfl rfl).below ((Below.refl _ _).alloc (Nat.le_refl _) _)) (by have := ints_lit' (w.alloc (.cells #[.int .i64 2, .int .i64 9, .int .i64 9] 3)) [2, 5, 3] 3 _ rfl rfl; simpa using this) (by simp) (by simp)).mono ?_
  rintro e w1 ⟨rfl, hb1⟩
  rw [show accR 10 [2, 9, 9] [2, 5, 3] = false by decide +kernel, show Pl.err 10 [2, 9, 9] = 0 by decide +kernel]
  have hw1 : Below w.heap.size w w1 := (((Below.refl _ w).alloc (Nat.le_refl _) _).alloc (by simp) _).trans (hb1.mono (by simp; omega))
  clear hb1
  go_wp2_with (fail)
  refine (Divide_any (-1) _ [] _ IsInts.nil (by simp)).mono ?_
  rintro e w2 ⟨⟨x, rfl, hx⟩, hb2⟩
  rw [show Pl.err (-1) [] = 440 by decide +kernel]
  obtain ⟨A3, cap3, rfl, _⟩ := hx
  have hw2 := hw1.up hb2
  clear hw1 hb2
  go_wp2_with (fail)
  refine (Level_any 0 _ [-1] _ (ints_lit' w2 [-1] 1 _ rfl rfl) (by simp)).mono ?_
  rintro e w3 ⟨rfl, hb3⟩
  rw [show Pl.err 0 [-1] = 440 by decide +kernel, show levelR 0 [-1] = 0 by decide +kernel]
  have hw3 := hw2.up (((Below.refl _ w2).alloc (Nat.le_refl _) _).up hb3)
  clear hw2 hb3
  go_wp2_with (fail)
  refine (Divide_any (-1) _ (List.replicate 33 0) _ (ints_lit' w3 (List.replicate 33 0) 33 _ rfl rfl) (by simp)).mono ?_
  rintro e w4 ⟨⟨x, rfl, hx⟩, hb4⟩
  rw [show Pl.err (-1) (List.replicate 33 0) = 2 by decide +kernel]
  obtain ⟨A4, cap4, rfl, _⟩ := hx
  have hw4 := hw3.up (((Below.refl _ w3).alloc (Nat.le_refl _) _).up hb4)
  clear hw3 hb4
  go_wp2_with (fail)
  refine (is_any 5 0 _ _ [] [] _ IsInts.nil IsInts.nil (by simp) (by simp) (by decide +kernel) (by decide +kernel) (by decide +kernel)).mono ?_
  rintro e w5 ⟨rfl, hb5⟩
  have hw5 := hw4.up hb5
  clear hw4 hb5
  go_wp2_with (fail)
  refine (is_any 0 0 _ _ [3, 4] [0, 0] _ ((ints_lit' w5 [3, 4] 2 _ rfl rfl).below ((Below.refl _ _).alloc (Nat.le_refl _) _)) (by have := ints_lit' (w5.alloc (.cells #[.int .i64 3, .int .i64 4] 3)) [0, 0] 2 _ rfl rfl; simpa using this) (by simp) (by simp) (by decide +kernel) (by decide +kernel) (by decide +kernel)).mono ?_
  rintro e w6 ⟨rfl, hb⟩
  have hw6 := hw5.up ((((Below.refl _ w5).alloc (Nat.le_refl _) _).alloc (by simp) _).trans (hb.mono (by simp; omega)))
  clear hw5 hb
  go_wp2_with (fail)
  refine (is_any 9 4 _ _ [3, 4] [3, 4] _ ((ints_lit' w6 [3, 4] 2 _ rfl rfl).below ((Below.refl _ _).alloc (Nat.le_refl _) _)) (by have := ints_lit' (w6.alloc (.cells #[.int .i64 3, .int .i64 4] 3)) [3, 4] 2 _ rfl rfl; simpa using this) (by simp) (by simp) (by decide +kernel) (by decide +kernel) (by decide +kernel)).mono ?_
  rintro e w7 ⟨rfl, hb⟩
  have hw7 := hw6.up ((((Below.refl _ w6).alloc (Nat.le_refl _) _).alloc (by simp) _).trans (hb.mono (by simp; omega)))
  clear hw6 hb
  go_wp2_with (fail)
  refine (is_any 5 2 _ _ [3, 4] [3, 2] _ ((ints_lit' w7 [3, 4] 2 _ rfl rfl).below ((Below.refl _ _).alloc (Nat.le_refl _) _)) (by have := ints_lit' (w7.alloc (.cells #[.int .i64 3, .int .i64 4] 3)) [3, 2] 2 _ rfl rfl; simpa using this) (by simp) (by simp) (by decide +kernel) (by decide +kernel) (by decide +kernel)).mono ?_
  rintro e w8 ⟨rfl, hb⟩
  have hw8 := hw7.up ((((Below.refl _ w7).alloc (Nat.le_refl _) _).alloc (by simp) _).trans (hb.mono (by simp; omega)))
  clear hw7 hb
  go_wp2_with (fail)
  refine (is_any 1 0 _ _ [0, 1, 1] [0, 1, 0] _ ((ints_lit' w8 [0, 1, 1] 3 _ rfl rfl).below ((Below.refl _ _).alloc (Nat.le_refl _) _)) (by have := ints_lit' (w8.alloc (.cells #[.int .i64 0, .int .i64 1, .int .i64 1] 3)) [0, 1, 0] 3 _ rfl rfl; simpa using this) (by simp) (by simp) (by decide +kernel) (by decide +kernel) (by decide +kernel)).mono ?_
  rintro e w9 ⟨rfl, hb⟩
  have hw9 := hw8.up ((((Below.refl _ w8).alloc (Nat.le_refl _) _).alloc (by simp) _).trans (hb.mono (by simp; omega)))
  clear hw8 hb
  go_wp2_with (fail)
  refine (is_any 10 4 _ _ [2, 9, 9] [2, 4, 4] _ ((ints_lit' w9 [2, 9, 9] 3 _ rfl rfl).below ((Below.refl _ _).alloc (Nat.le_refl _) _)) (by have := ints_lit' (w9.alloc (.cells #[.int .i64 2, .int .i64 9, .int .i64 9] 3)) [2, 4, 4] 3 _ rfl rfl; simpa using this) (by simp) (by simp) (by decide +kernel) (by decide +kernel) (by decide +kernel)).mono ?_
  rintro e w10 ⟨rfl, hb⟩
  have hw10 := hw9.up ((((Below.refl _ w9).alloc (Nat.le_refl _) _).alloc (by simp) _).trans (hb.mono (by simp; omega)))
  clear hw9 hb
  go_wp2_with (fail)
  go_ret
  exact ⟨rfl, hw10⟩

end Go.Proofs.Ytagbdjdphghflaa

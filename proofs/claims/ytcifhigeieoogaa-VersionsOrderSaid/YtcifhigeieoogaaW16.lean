/- Walk of the laws' examples (sane). -/
import Derived.Test.YtcifhigeieoogaaW15
namespace Go.Proofs.Ytcifhigeieoogaa
open Go.RowKit
set_option linter.unusedVariables false
set_option linter.unusedSimpArgs false
attribute [local go_sem] frozen_new
theorem same_b {v u : Value} {xs ys : List Am} {b : Bool} {w : World} (hb : decide (xs = ys) = b) (hv : IsAs w v xs) (hu : IsAs w u ys) (hl : xs.length ≤ 9223372036854775807) (hl2 : ys.length ≤ 9223372036854775807) : Calls Try.prog 13 #[v, u] w (BPost b w) :=
  (same_is hb hv hu hl hl2).mono fun e w' h => ⟨h.1, by obtain ⟨k, rfl⟩ := h.2; exact below_drewN (Below.refl _ _) k⟩
theorem sameS_b {v u : Value} {xs ys : List St} {b : Bool} {w : World} (hb : decide (xs = ys) = b) (hv : IsSs w v xs) (hu : IsSs w u ys) (hl : xs.length ≤ 9223372036854775807) (hl2 : ys.length ≤ 9223372036854775807) : Calls Try.prog 21 #[v, u] w (BPost b w) :=
  (sameS_is hb hv hu hl hl2).mono fun e w' h => ⟨h.1, by obtain ⟨k, rfl⟩ := h.2; exact below_drewN (Below.refl _ _) k⟩
instance (x y : Am) : Decidable (Vn.lexLt x y) := by unfold Vn.lexLt; infer_instance
set_option maxHeartbeats 8000000 in
set_option maxRecDepth 100000 in
theorem sane_any (w : World) : Calls Try.prog 9 #[] w (BPost true w) := by
  have HW := Lib.hid (Bl.mk (Below.refl w.heap.size w))
  have SF := Lib.hid Vn.s_facts
  go_enter Try.func9, Try.ntmps9
  go_wp2_with (fail)
  replace HW := Lib.hid (HW.out.upb (al1 (w) (.cells #[.int .i64 4, .int .i64 10, .int .i64 0, .int .i64 0, .int .i64 5, .bool false] 27)))
  have F5 := Lib.hid (show IsAs ((w).alloc (.cells #[.int .i64 4, .int .i64 10, .int .i64 0, .int .i64 0, .int .i64 5, .bool false] 27)) (.slice (some ⟨w.heap.size, 0, none⟩) 1 1) [Vn.a5] from by have h := lit1A (w) (Vn.a5); exact h)
  refine (Add_is SF.out.1 SF.out.2.1 F5.out (by simp)).mono ?_
  rintro e w1 ⟨A1, c1, rfl, hg, hb⟩
  replace HW := Lib.hid (HW.out.upb hb)
  replace F5 := Lib.hid (F5.out.upb hb)
  clear hb
  have FG := Lib.hid (show IsAs _ (.slice A1 2 c1) [Vn.aG, Vn.a5] from hg)
  clear hg
  go_wp2_with (fail)
  refine (Add_is SF.out.2.2.1 SF.out.2.2.2.1 F5.out (by simp)).mono ?_
  rintro e w2 ⟨A2, c2, rfl, hg, hb⟩
  replace HW := Lib.hid (HW.out.upb hb)
  replace F5 := Lib.hid (F5.out.upb hb)
  replace FG := Lib.hid (FG.out.upb hb)
  clear hb hg
  go_wp2_with (fail)
  refine (Add_is SF.out.2.2.2.2.1 SF.out.2.2.2.2.2.1 F5.out (by simp)).mono ?_
  rintro e w3 ⟨A3, c3, rfl, hg, hb⟩
  replace HW := Lib.hid (HW.out.upb hb)
  replace F5 := Lib.hid (F5.out.upb hb)
  replace FG := Lib.hid (FG.out.upb hb)
  clear hb hg
  go_wp2_with (fail)
  replace HW := Lib.hid (HW.out.upb (al1 (w3) (.cells #[.int .i64 2, .int .i64 20, .int .i64 0, .int .i64 0, .int .i64 0, .bool true, .int .i64 4, .int .i64 10, .int .i64 0, .int .i64 0, .int .i64 5, .bool false] 27)))
  replace F5 := Lib.hid (F5.out.upb (al1 (w3) (.cells #[.int .i64 2, .int .i64 20, .int .i64 0, .int .i64 0, .int .i64 0, .bool true, .int .i64 4, .int .i64 10, .int .i64 0, .int .i64 0, .int .i64 5, .bool false] 27)))
  replace FG := Lib.hid (FG.out.upb (al1 (w3) (.cells #[.int .i64 2, .int .i64 20, .int .i64 0, .int .i64 0, .int .i64 0, .bool true, .int .i64 4, .int .i64 10, .int .i64 0, .int .i64 0, .int .i64 5, .bool false] 27)))
  have FX := Lib.hid (show IsAs ((w3).alloc (.cells #[.int .i64 2, .int .i64 20, .int .i64 0, .int .i64 0, .int .i64 0, .bool true, .int .i64 4, .int .i64 10, .int .i64 0, .int .i64 0, .int .i64 5, .bool false] 27)) (.slice (some ⟨w3.heap.size, 0, none⟩) 2 2) [Vn.aG, Vn.a5] from by have h := lit2A (w3) (Vn.aG) (Vn.a5); exact h)
  refine (same_b (decide_eq_true rfl) FG.out FX.out (by simp) (by simp)).mono ?_
  rintro e w4 ⟨rfl, hb⟩
  replace HW := Lib.hid (HW.out.upb hb)
  replace F5 := Lib.hid (F5.out.upb hb)
  replace FG := Lib.hid (FG.out.upb hb)
  replace FX := Lib.hid (FX.out.upb hb)
  clear hb
  clear FX
  go_wp2_with (fail)
  replace HW := Lib.hid (HW.out.upb (al1 (w4) (.cells #[.int .i64 0, .int .i64 0, .int .i64 0, .int .i64 0, .int .i64 7, .bool false, .int .i64 1, .int .i64 0, .int .i64 0, .int .i64 0, .int .i64 8, .bool false] 27)))
  replace F5 := Lib.hid (F5.out.upb (al1 (w4) (.cells #[.int .i64 0, .int .i64 0, .int .i64 0, .int .i64 0, .int .i64 7, .bool false, .int .i64 1, .int .i64 0, .int .i64 0, .int .i64 0, .int .i64 8, .bool false] 27)))
  replace FG := Lib.hid (FG.out.upb (al1 (w4) (.cells #[.int .i64 0, .int .i64 0, .int .i64 0, .int .i64 0, .int .i64 7, .bool false, .int .i64 1, .int .i64 0, .int .i64 0, .int .i64 0, .int .i64 8, .bool false] 27)))
  have F8 := Lib.hid (show IsAs ((w4).alloc (.cells #[.int .i64 0, .int .i64 0, .int .i64 0, .int .i64 0, .int .i64 7, .bool false, .int .i64 1, .int .i64 0, .int .i64 0, .int .i64 0, .int .i64 8, .bool false] 27)) (.slice (some ⟨w4.heap.size, 0, none⟩) 2 2) [Vn.a7, Vn.a8] from by have h := lit2A (w4) (Vn.a7) (Vn.a8); exact h)
  replace HW := Lib.hid (HW.out.upb (al1 ((w4).alloc (.cells #[.int .i64 0, .int .i64 0, .int .i64 0, .int .i64 0, .int .i64 7, .bool false, .int .i64 1, .int .i64 0, .int .i64 0, .int .i64 0, .int .i64 8, .bool false] 27)) (.cells #[.int .i64 0, .int .i64 10, .int .i64 0, .int .i64 0, .int .i64 5, .bool false, .int .i64 1, .int .i64 20, .int .i64 0, .int .i64 0, .int .i64 5, .bool false] 27)))
  replace F5 := Lib.hid (F5.out.upb (al1 ((w4).alloc (.cells #[.int .i64 0, .int .i64 0, .int .i64 0, .int .i64 0, .int .i64 7, .bool false, .int .i64 1, .int .i64 0, .int .i64 0, .int .i64 0, .int .i64 8, .bool false] 27)) (.cells #[.int .i64 0, .int .i64 10, .int .i64 0, .int .i64 0, .int .i64 5, .bool false, .int .i64 1, .int .i64 20, .int .i64 0, .int .i64 0, .int .i64 5, .bool false] 27)))
  replace FG := Lib.hid (FG.out.upb (al1 ((w4).alloc (.cells #[.int .i64 0, .int .i64 0, .int .i64 0, .int .i64 0, .int .i64 7, .bool false, .int .i64 1, .int .i64 0, .int .i64 0, .int .i64 0, .int .i64 8, .bool false] 27)) (.cells #[.int .i64 0, .int .i64 10, .int .i64 0, .int .i64 0, .int .i64 5, .bool false, .int .i64 1, .int .i64 20, .int .i64 0, .int .i64 0, .int .i64 5, .bool false] 27)))
  replace F8 := Lib.hid (F8.out.upb (al1 ((w4).alloc (.cells #[.int .i64 0, .int .i64 0, .int .i64 0, .int .i64 0, .int .i64 7, .bool false, .int .i64 1, .int .i64 0, .int .i64 0, .int .i64 0, .int .i64 8, .bool false] 27)) (.cells #[.int .i64 0, .int .i64 10, .int .i64 0, .int .i64 0, .int .i64 5, .bool false, .int .i64 1, .int .i64 20, .int .i64 0, .int .i64 0, .int .i64 5, .bool false] 27)))
  have F9 := Lib.hid (show IsAs (((w4).alloc (.cells #[.int .i64 0, .int .i64 0, .int .i64 0, .int .i64 0, .int .i64 7, .bool false, .int .i64 1, .int .i64 0, .int .i64 0, .int .i64 0, .int .i64 8, .bool false] 27)).alloc (.cells #[.int .i64 0, .int .i64 10, .int .i64 0, .int .i64 0, .int .i64 5, .bool false, .int .i64 1, .int .i64 20, .int .i64 0, .int .i64 0, .int .i64 5, .bool false] 27)) (.slice (some ⟨w4.heap.size + 1, 0, none⟩) 2 2) [Vn.a55, Vn.a56] from by have h := lit2A ((w4).alloc (.cells #[.int .i64 0, .int .i64 0, .int .i64 0, .int .i64 0, .int .i64 7, .bool false, .int .i64 1, .int .i64 0, .int .i64 0, .int .i64 0, .int .i64 8, .bool false] 27)) (Vn.a55) (Vn.a56); simp only [World.size_alloc] at h; exact h)
  refine (Value_is SF.out.2.2.2.2.2.2.1 SF.out.2.2.2.2.2.2.2.1 IsAs.nil (by simp)).mono ?_
  rintro e w5 ⟨rfl, hb⟩
  replace HW := Lib.hid (HW.out.upb hb)
  replace F5 := Lib.hid (F5.out.upb hb)
  replace FG := Lib.hid (FG.out.upb hb)
  replace F8 := Lib.hid (F8.out.upb hb)
  replace F9 := Lib.hid (F9.out.upb hb)
  clear hb
  go_wp2_with (fail)
  replace HW := Lib.hid (HW.out.upb (al1 (w5) (.cells #[.int .i64 0, .int .i64 0, .int .i64 0, .int .i64 0, .int .i64 3, .bool true] 27)))
  replace F5 := Lib.hid (F5.out.upb (al1 (w5) (.cells #[.int .i64 0, .int .i64 0, .int .i64 0, .int .i64 0, .int .i64 3, .bool true] 27)))
  replace FG := Lib.hid (FG.out.upb (al1 (w5) (.cells #[.int .i64 0, .int .i64 0, .int .i64 0, .int .i64 0, .int .i64 3, .bool true] 27)))
  replace F8 := Lib.hid (F8.out.upb (al1 (w5) (.cells #[.int .i64 0, .int .i64 0, .int .i64 0, .int .i64 0, .int .i64 3, .bool true] 27)))
  replace F9 := Lib.hid (F9.out.upb (al1 (w5) (.cells #[.int .i64 0, .int .i64 0, .int .i64 0, .int .i64 0, .int .i64 3, .bool true] 27)))
  have FB := Lib.hid (show IsAs ((w5).alloc (.cells #[.int .i64 0, .int .i64 0, .int .i64 0, .int .i64 0, .int .i64 3, .bool true] 27)) (.slice (some ⟨w5.heap.size, 0, none⟩) 1 1) [Vn.aB] from by have h := lit1A (w5) (Vn.aB); exact h)
  refine (Check_is SF.out.2.2.2.2.2.2.2.2.1 FB.out (by simp)).mono ?_
  rintro e w6 ⟨rfl, hb⟩
  replace HW := Lib.hid (HW.out.upb hb)
  replace F5 := Lib.hid (F5.out.upb hb)
  replace FG := Lib.hid (FG.out.upb hb)
  replace F8 := Lib.hid (F8.out.upb hb)
  replace F9 := Lib.hid (F9.out.upb hb)
  replace FB := Lib.hid (FB.out.upb hb)
  clear hb
  clear FB
  go_wp2_with (fail)
  refine (Check_is SF.out.2.2.2.2.2.2.2.2.2.1 F8.out (by simp)).mono ?_
  rintro e w7 ⟨rfl, hb⟩
  replace HW := Lib.hid (HW.out.upb hb)
  replace F5 := Lib.hid (F5.out.upb hb)
  replace FG := Lib.hid (FG.out.upb hb)
  replace F8 := Lib.hid (F8.out.upb hb)
  replace F9 := Lib.hid (F9.out.upb hb)
  clear hb
  go_wp2_with (fail)
  refine (is_yes SF.out.2.2.2.2.2.2.2.2.2.2.1 SF.out.2.2.2.2.2.2.2.2.2.2.2.1 IsAs.nil (by simp)).mono ?_
  rintro e w8 ⟨rfl, hb⟩
  replace HW := Lib.hid (HW.out.upb hb)
  replace F5 := Lib.hid (F5.out.upb hb)
  replace FG := Lib.hid (FG.out.upb hb)
  replace F8 := Lib.hid (F8.out.upb hb)
  replace F9 := Lib.hid (F9.out.upb hb)
  clear hb
  go_wp2_with (fail)
  refine (has_yes (Vn.ok_err (by decide +kernel)) Vn.sorted_nil Vn.s_h1 IsAs.nil IsSs.nil (by simp)).mono ?_
  rintro e w9 ⟨rfl, hb⟩
  replace HW := Lib.hid (HW.out.upb hb)
  replace F5 := Lib.hid (F5.out.upb hb)
  replace FG := Lib.hid (FG.out.upb hb)
  replace F8 := Lib.hid (F8.out.upb hb)
  replace F9 := Lib.hid (F9.out.upb hb)
  clear hb
  go_wp2_with (fail)
  refine (is_yes SF.out.2.2.2.2.2.2.2.2.2.2.2.2.1 SF.out.2.2.2.2.2.2.2.2.2.2.2.2.2.1 F5.out (by simp)).mono ?_
  rintro e w10 ⟨rfl, hb⟩
  replace HW := Lib.hid (HW.out.upb hb)
  replace F5 := Lib.hid (F5.out.upb hb)
  replace FG := Lib.hid (FG.out.upb hb)
  replace F8 := Lib.hid (F8.out.upb hb)
  replace F9 := Lib.hid (F9.out.upb hb)
  clear hb
  go_wp2_with (fail)
  refine (is_yes SF.out.2.2.2.2.2.2.2.2.2.2.2.2.2.2.1 SF.out.2.2.2.2.2.2.2.2.2.2.2.2.2.2.2 F5.out (by simp)).mono ?_
  rintro e w11 ⟨rfl, hb⟩
  replace HW := Lib.hid (HW.out.upb hb)
  replace F5 := Lib.hid (F5.out.upb hb)
  replace FG := Lib.hid (FG.out.upb hb)
  replace F8 := Lib.hid (F8.out.upb hb)
  replace F9 := Lib.hid (F9.out.upb hb)
  clear hb
  go_wp2_with (fail)
  replace HW := Lib.hid (HW.out.upb (al1 (w11) (.cells #[.int .i64 10, .int .i64 5, .bool true, .int .i64 20, .int .i64 0, .bool false] 44)))
  replace F5 := Lib.hid (F5.out.upb (al1 (w11) (.cells #[.int .i64 10, .int .i64 5, .bool true, .int .i64 20, .int .i64 0, .bool false] 44)))
  replace FG := Lib.hid (FG.out.upb (al1 (w11) (.cells #[.int .i64 10, .int .i64 5, .bool true, .int .i64 20, .int .i64 0, .bool false] 44)))
  replace F8 := Lib.hid (F8.out.upb (al1 (w11) (.cells #[.int .i64 10, .int .i64 5, .bool true, .int .i64 20, .int .i64 0, .bool false] 44)))
  replace F9 := Lib.hid (F9.out.upb (al1 (w11) (.cells #[.int .i64 10, .int .i64 5, .bool true, .int .i64 20, .int .i64 0, .bool false] 44)))
  have S1 := Lib.hid (show IsSs ((w11).alloc (.cells #[.int .i64 10, .int .i64 5, .bool true, .int .i64 20, .int .i64 0, .bool false] 44)) (.slice (some ⟨w11.heap.size, 0, none⟩) 2 2) [⟨10, 5, true⟩, ⟨20, 0, false⟩] from by have h := lit2S (w11) (⟨10, 5, true⟩) (⟨20, 0, false⟩); exact h)
  refine (has_yes (Vn.ok_err (by decide +kernel)) (Vn.sorted_swap (by decide +kernel) (by decide +kernel) (by decide +kernel)) Vn.s_h2 FG.out S1.out (by simp)).mono ?_
  rintro e w12 ⟨rfl, hb⟩
  replace HW := Lib.hid (HW.out.upb hb)
  replace F5 := Lib.hid (F5.out.upb hb)
  replace FG := Lib.hid (FG.out.upb hb)
  replace F8 := Lib.hid (F8.out.upb hb)
  replace F9 := Lib.hid (F9.out.upb hb)
  replace S1 := Lib.hid (S1.out.upb hb)
  clear hb
  clear S1
  go_wp2_with (fail)
  replace HW := Lib.hid (HW.out.upb (al1 (w12) (.cells #[.int .i64 0, .int .i64 8, .bool true] 44)))
  replace F5 := Lib.hid (F5.out.upb (al1 (w12) (.cells #[.int .i64 0, .int .i64 8, .bool true] 44)))
  replace FG := Lib.hid (FG.out.upb (al1 (w12) (.cells #[.int .i64 0, .int .i64 8, .bool true] 44)))
  replace F8 := Lib.hid (F8.out.upb (al1 (w12) (.cells #[.int .i64 0, .int .i64 8, .bool true] 44)))
  replace F9 := Lib.hid (F9.out.upb (al1 (w12) (.cells #[.int .i64 0, .int .i64 8, .bool true] 44)))
  have S2 := Lib.hid (show IsSs ((w12).alloc (.cells #[.int .i64 0, .int .i64 8, .bool true] 44)) (.slice (some ⟨w12.heap.size, 0, none⟩) 1 1) [⟨0, 8, true⟩] from by have h := lit1S (w12) (⟨0, 8, true⟩); exact h)
  refine (has_yes (Vn.ok_err (by decide +kernel)) (Vn.sorted_two (by decide +kernel) (by decide +kernel) (by decide +kernel)) Vn.s_h3 F8.out S2.out (by simp)).mono ?_
  rintro e w13 ⟨rfl, hb⟩
  replace HW := Lib.hid (HW.out.upb hb)
  replace F5 := Lib.hid (F5.out.upb hb)
  replace FG := Lib.hid (FG.out.upb hb)
  replace F8 := Lib.hid (F8.out.upb hb)
  replace F9 := Lib.hid (F9.out.upb hb)
  replace S2 := Lib.hid (S2.out.upb hb)
  clear hb
  clear S2
  go_wp2_with (fail)
  replace HW := Lib.hid (HW.out.upb (al1 (w13) (.cells #[.int .i64 10, .int .i64 5, .bool true] 44)))
  replace F5 := Lib.hid (F5.out.upb (al1 (w13) (.cells #[.int .i64 10, .int .i64 5, .bool true] 44)))
  replace FG := Lib.hid (FG.out.upb (al1 (w13) (.cells #[.int .i64 10, .int .i64 5, .bool true] 44)))
  replace F8 := Lib.hid (F8.out.upb (al1 (w13) (.cells #[.int .i64 10, .int .i64 5, .bool true] 44)))
  replace F9 := Lib.hid (F9.out.upb (al1 (w13) (.cells #[.int .i64 10, .int .i64 5, .bool true] 44)))
  have S3 := Lib.hid (show IsSs ((w13).alloc (.cells #[.int .i64 10, .int .i64 5, .bool true] 44)) (.slice (some ⟨w13.heap.size, 0, none⟩) 1 1) [⟨10, 5, true⟩] from by have h := lit1S (w13) (⟨10, 5, true⟩); exact h)
  refine (has_yes (Vn.ok_err (by decide +kernel)) (Vn.sorted_two (by decide +kernel) (by decide +kernel) (by decide +kernel)) Vn.s_h4 F9.out S3.out (by simp)).mono ?_
  rintro e w14 ⟨rfl, hb⟩
  replace HW := Lib.hid (HW.out.upb hb)
  replace F5 := Lib.hid (F5.out.upb hb)
  replace FG := Lib.hid (FG.out.upb hb)
  replace F8 := Lib.hid (F8.out.upb hb)
  replace F9 := Lib.hid (F9.out.upb hb)
  replace S3 := Lib.hid (S3.out.upb hb)
  clear hb
  go_wp2_with (fail)
  go_ret
  exact ⟨rfl, HW.out.b⟩
end Go.Proofs.Ytcifhigeieoogaa

/- Walks of the reference's Value and next. -/
import Derived.Test.YtcifhigeieoogaaW17
namespace Go.Proofs.Ytcifhigeieoogaa
open Go.RowKit
set_option linter.unusedVariables false
set_option linter.unusedSimpArgs false
attribute [local go_sem] frozen_new
theorem value_is {v : Value} {l : List Am} {key t k0 x : Int} {b : Bool} {w : World} (h : Vn.vl l key t k0 = (x, b)) (hv : IsAs w v l) (hok : Vn.Ok l) : Calls Try.prog 36 #[v, .int .i64 key, .int .i64 t, .int .i64 k0] w fun e w' => e = .returned (.tuple #[.int .i64 x, .bool b]) ∧ Below w.heap.size w w' :=
  (value_any hv hok.len hok.rt).mono fun e w' h2 => ⟨by rw [h2.1, h], by obtain ⟨q, rfl⟩ := h2.2; exact below_drewN (Below.refl _ _) q⟩
set_option maxHeartbeats 4000000 in
theorem refValue_any (v : Value) (l : List Am) (key t k0 : Int) (w : World) (hv : IsAs w v l) (hl : l.length ≤ 9223372036854775807) : Calls Try.prog 18 #[v, .int .i64 key, .int .i64 t, .int .i64 k0] w (ValPost l key t k0 w) := by
  have HV := Lib.hid hv
  obtain ⟨A, cap, rfl, hr⟩ := id hv
  clear hr hv
  go_enter Try.func18, Try.ntmps18
  go_wp2_with (fail)
  by_cases he : Vn.err l = 0
  rotate_left
  · obtain ⟨z, hz⟩ : ∃ z, Vn.err l = z := ⟨_, rfl⟩
    have hne : (z != 0) = true := by rw [← hz, bne_iff_ne]; exact he
    have E := Lib.hid (valE_err (key := key) (t := t) (k0 := k0) hz (by rw [← hz]; exact he))
    refine (refCheck_is hz HV.out hl).mono ?_
    rintro e w1 ⟨rfl, b1⟩
    clear he hz
    go_wp2_with (fail)
    go_ret3
    exact .of E.out b1
  have HOK := Lib.hid ((Vn.err_iff l).1 he)
  refine (refCheck_is he HV.out hl).mono ?_
  rintro e w1 ⟨rfl, b1⟩
  have HB1 := Lib.hid b1
  have HV1 := Lib.hid (HV.out.upb b1)
  have HE := Lib.hid he
  clear b1 he
  go_wp2_with (fail)
  cases a0 : Vn.inn key 1048576
  · refine (refWithin_1048577 a0 _).mono ?_
    rintro e _ ⟨rfl, rfl⟩
    have E := Lib.hid (valE_arg HE.out (argV_k (key := key) (t := t) (k0 := k0) a0))
    go_wp2_with (fail)
    go_ret3
    exact .of E.out HB1.out
  refine (refWithin_1048577 a0 _).mono ?_
  rintro e _ ⟨rfl, rfl⟩
  go_wp2_with (fail)
  cases a1 : Vn.inn t 1099511627775
  · refine (refWithin_1099511627776 a1 _).mono ?_
    rintro e _ ⟨rfl, rfl⟩
    have E := Lib.hid (valE_arg HE.out (argV_t (key := key) (t := t) (k0 := k0) a1))
    go_wp2_with (fail)
    go_ret3
    exact .of E.out HB1.out
  refine (refWithin_1099511627776 a1 _).mono ?_
  rintro e _ ⟨rfl, rfl⟩
  go_wp2_with (fail)
  cases a2 : Vn.inn k0 1099511627775
  · refine (refWithin_1099511627776 a2 _).mono ?_
    rintro e _ ⟨rfl, rfl⟩
    have E := Lib.hid (valE_arg HE.out (argV_n (key := key) (t := t) (k0 := k0) a2))
    go_wp2_with (fail)
    go_ret3
    exact .of E.out HB1.out
  refine (refWithin_1099511627776 a2 _).mono ?_
  rintro e _ ⟨rfl, rfl⟩
  go_wp2_with (fail)
  obtain ⟨y, hy⟩ : ∃ y, (Vn.vl l key t k0).1 = y := ⟨_, rfl⟩
  obtain ⟨f, hf⟩ : ∃ y, (Vn.vl l key t k0).2 = y := ⟨_, rfl⟩
  have HS := Lib.hid (show Vn.vl l key t k0 = (y, f) by rw [← hy, ← hf])
  have E := Lib.hid (show Vn.valE l key t k0 = 0 ∧ Vn.val l key t k0 = (y, f) from by
    have := valE_ok (l := l) HE.out (argV_y a0 a1 a2)
    exact ⟨this.1, this.2.trans HS.out⟩)
  clear hy hf a0 a1 a2
  refine (value_is HS.out HV1.out HOK.out).mono ?_
  rintro e w2 ⟨rfl, b2⟩
  go_wp2_with (fail)
  go_ret3
  exact .of E.out (HB1.out.up b2)
theorem refValue_is {v : Value} {l : List Am} {key t k0 z x : Int} {b : Bool} {w : World} (hz : Vn.valE l key t k0 = z) (hx : Vn.val l key t k0 = (x, b)) (hv : IsAs w v l) (hl : l.length ≤ 9223372036854775807) : Calls Try.prog 18 #[v, .int .i64 key, .int .i64 t, .int .i64 k0] w fun e w' => e = .returned (.tuple #[.int .i64 x, .bool b, .int .i64 z]) ∧ Below w.heap.size w w' :=
  (refValue_any v l key t k0 w hv hl).mono fun e w' h => ⟨by rw [h.1, hz, hx], h.2⟩

set_option maxHeartbeats 4000000 in
theorem next_any (v : Value) (l : List Am) (t : Int) (w : World) (hv : IsAs w v l) (hl : l.length ≤ 4096) : Calls Try.prog 38 #[v, .int .i64 t] w fun e w' => e = .returned (.int .i64 (Vn.nx l t)) ∧ w = w' := by
  obtain ⟨A, cap, rfl, hr⟩ := hv
  have HR := Lib.hid hr
  clear hr
  go_enter Try.func38, Try.ntmps38
  go_wp2
  go_loop [5, 6] (fun z i => ∃ (k : Nat) (y : Int), i = .int .i64 k ∧ z = .int .i64 y ∧ k ≤ l.length ∧ Hid (Vn.nx (l.take k) t = y)) (fun _ i => l.length - (intOf i).toNat)
  case atStart => exact ⟨0, -1, rfl, rfl, Nat.zero_le _, Lib.hid rfl⟩
  case round =>
    obtain ⟨k, y, rfl, rfl, hk, HN⟩ := hrel
    by_cases hlt : k < l.length
    case neg =>
      obtain rfl : k = l.length := by omega
      have hd1 : decide ((l.length : Int) < (l.length : Int)) = false := decide_eq_false (by omega)
      have HE := Lib.hid (show Vn.nx l t = y by have := HN.out; rwa [List.take_length] at this)
      go_wp2
      go_ret
      exact ⟨ret_int HE.out.symm, rfl⟩
    case pos =>
    have hd1 : decide ((k : Int) < (l.length : Int)) = true := decide_eq_true (by omega)
    obtain ⟨b, off, rfl, hat⟩ := IsAs_at HR.out hlt
    have HSN := Lib.hid (Vn.nx_take_succ hlt t)
    rw [HN.out] at HSN
    generalize l[k] = x at *
    have q1 := hat.c1
    have hkl : (k : Int) < (l.length : Int) := by omega
    clear hat
    cases c1 : decide (t < x.at_)
    · have HNN := Lib.hid (show Vn.nx (l.take (k + 1)) t = y by rw [HSN.out]; unfold Vn.nx1; rw [c1]; rfl)
      go_wp2
      go_round
      case rel => exact ⟨k + 1, y, by go_num, rfl, by omega, HNN⟩
      case measure => simp [intOf]; omega
    cases c2 : decide (y < 0)
    · cases c3 : decide (x.at_ < y)
      · have HNN := Lib.hid (show Vn.nx (l.take (k + 1)) t = y by rw [HSN.out]; unfold Vn.nx1; rw [c1, c2, c3]; rfl)
        go_wp2
        go_round
        case rel => exact ⟨k + 1, y, by go_num, rfl, by omega, HNN⟩
        case measure => simp [intOf]; omega
      · have HNN := Lib.hid (show Vn.nx (l.take (k + 1)) t = x.at_ by rw [HSN.out]; unfold Vn.nx1; rw [c1, c2, c3]; rfl)
        go_wp2
        go_round
        case rel => exact ⟨k + 1, x.at_, by go_num, rfl, by omega, HNN⟩
        case measure => simp [intOf]; omega
    · have HNN := Lib.hid (show Vn.nx (l.take (k + 1)) t = x.at_ by rw [HSN.out]; unfold Vn.nx1; rw [c1, c2]; rfl)
      go_wp2
      go_round
      case rel => exact ⟨k + 1, x.at_, by go_num, rfl, by omega, HNN⟩
      case measure => simp [intOf]; omega
theorem next_is {v : Value} {l : List Am} {t z : Int} {w : World} (hz : Vn.nx l t = z) (hv : IsAs w v l) (hl : l.length ≤ 4096) : Calls Try.prog 38 #[v, .int .i64 t] w fun e w' => e = .returned (.int .i64 z) ∧ w = w' := by subst hz; exact next_any v l t w hv hl
end Go.Proofs.Ytcifhigeieoogaa

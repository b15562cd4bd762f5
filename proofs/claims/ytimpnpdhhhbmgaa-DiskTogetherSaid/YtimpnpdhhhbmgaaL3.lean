/- Walk of DiskStopped. -/
import Derived.Test.YtimpnpdhhhbmgaaL2
namespace Go.Proofs.Ytimpnpdhhhbmgaa
open Go.RowKit
set_option linter.unusedVariables false
set_option linter.unusedSimpArgs false

theorem Restart_v {ss : List By} {ps : List Wr} {left : Int} {st : Bool} {v : Value} {w : World} (hv : IsD w v ⟨ss, ps, left, st⟩) :
    Calls Try.prog 17 #[v] w fun e w' => ∃ A c A2 c2, e = .returned (.agg #[.slice A ss.length c, .slice A2 0 c2, .int .i64 (-1), .bool false]) ∧ IsD w' (.agg #[.slice A ss.length c, .slice A2 0 c2, .int .i64 (-1), .bool false]) ⟨ss, [], -1, false⟩ ∧ Below w.heap.size w w' ∧ Sec w.heap.size v (.agg #[.slice A ss.length c, .slice A2 0 c2, .int .i64 (-1), .bool false]) :=
  Restart_is hv rfl
theorem isD_ss {w : World} {sv pv l s : Value} {d : Dk} (h : IsD w (.agg #[sv, pv, l, s]) d) : IsBs w sv d.ss := by
  obtain ⟨sv1, pv1, e1, h1, _⟩ := h
  injection e1 with e1
  injection e1 with e1
  injection e1 with e1 _
  subst e1
  exact h1
theorem norun {ss : List By} {ps : List Wr} {left : Int} : ¬ Dv.Run ⟨ss, ps, left, true⟩ := fun h => by have := h.2; cases this

set_option maxHeartbeats 8000000 in
set_option maxRecDepth 100000 in
theorem DiskStopped_any {d : Dk} {v u : Value} {at0 l : Int} {b : By} {w : World} (hv : IsD w v d) (hs : Small d) (hu : IsBytes w u b) :
    Calls Try.prog 9 #[v, .int .i64 at0, .int .i64 l, u] w fun e w' => e = .returned (.bool true) ∧ Below w.heap.size w w' := by
  have F3 := Lib.hid hv
  have FB := Lib.hid hu
  obtain ⟨A, c, A2, c2, rfl, h1, h2⟩ := hv.open_
  obtain ⟨A0, c0, rfl, _⟩ := id hu
  obtain ⟨ss, ps, left, st⟩ := d
  simp only at h1 h2 F3 ⊢
  have H1 := Lib.hid h1
  have H2 := Lib.hid h2
  have HL := Lib.hid hs
  clear hv hs hu h1 h2
  have HB0 := Lib.hid FB.out
  have HW := Lib.hid (Bl.mk (Below.refl w.heap.size w))
  replace F3 := Lib.hid (F3.out.upb (al1 (w) (.cells #[.slice A ss.length c, .slice A2 ps.length c2, .int .i64 left, .bool st] 25)))
  replace FB := Lib.hid (FB.out.upb (al1 (w) (.cells #[.slice A ss.length c, .slice A2 ps.length c2, .int .i64 left, .bool st] 25)))
  replace HW := Lib.hid (HW.out.upb (al1 (w) (.cells #[.slice A ss.length c, .slice A2 ps.length c2, .int .i64 left, .bool st] 25)))
  have Z3 := Lib.hid (Cells.new (w) 25 [.slice A ss.length c, .slice A2 ps.length c2, .int .i64 left, .bool st])
  go_enter Try.func9, Try.ntmps9
  go_wp2_with (fail)
  refine (sane_any _).mono ?_
  rintro e w1 ⟨rfl, hb⟩
  replace F3 := Lib.hid (F3.out.upb hb)
  replace FB := Lib.hid (FB.out.upb hb)
  replace HW := Lib.hid (HW.out.upb hb)
  replace Z3 := Lib.hid (Z3.out.upb hb)
  clear hb
  have Z3l := Z3.out.lt
  have Z3c0 := Z3.out.cell (k := 0) rfl
  have Z3c1 := Z3.out.cell (k := 1) rfl
  have Z3c2 := Z3.out.cell (k := 2) rfl
  have Z3c3 := Z3.out.cell (k := 3) rfl
  go_wp2_with (fail)
  refine (Few_any F3.out HL.out.1 HL.out.2).mono ?_
  rintro e w2 ⟨⟨fb, rfl⟩, hb⟩
  replace F3 := Lib.hid (F3.out.upb hb)
  replace FB := Lib.hid (FB.out.upb hb)
  replace HW := Lib.hid (HW.out.upb hb)
  replace Z3 := Lib.hid (Z3.out.upb hb)
  clear hb
  clear Z3l Z3c0 Z3c1 Z3c2 Z3c3
  cases fb with
  | false =>
    go_wp2_with (fail)
    go_ret
    exact ⟨rfl, HW.out.b⟩
  | true =>
  by_cases hb1 : (1000 : Int) < (b.length : Int)
  case pos =>
    have t1 : decide ((1000 : Int) < (b.length : Int)) = true := decide_eq_true hb1
    clear hb1
    go_wp2_with (fail)
    go_ret
    exact ⟨rfl, HW.out.b⟩
  case neg =>
  have t1 : decide ((1000 : Int) < (b.length : Int)) = false := decide_eq_false hb1
  clear hb1
  have Z3l := Z3.out.lt
  have Z3c0 := Z3.out.cell (k := 0) rfl
  have Z3c1 := Z3.out.cell (k := 1) rfl
  have Z3c2 := Z3.out.cell (k := 2) rfl
  have Z3c3 := Z3.out.cell (k := 3) rfl
  go_wp2_with (fail)
  refine (Restart_v F3.out).mono ?_
  rintro e w3 ⟨A5, c5, B5, d5, rfl, hd, hb, _⟩
  replace F3 := Lib.hid (F3.out.upb hb)
  replace FB := Lib.hid (FB.out.upb hb)
  replace HW := Lib.hid (HW.out.upb hb)
  replace Z3 := Lib.hid (Z3.out.upb hb)
  clear hb
  clear Z3l Z3c0 Z3c1 Z3c2 Z3c3
  have F5 := Lib.hid hd
  clear hd
  have Z3l := Z3.out.lt
  have Z3c0 := Z3.out.cell (k := 0) rfl
  have Z3c1 := Z3.out.cell (k := 1) rfl
  have Z3c2 := Z3.out.cell (k := 2) rfl
  have Z3c3 := Z3.out.cell (k := 3) rfl
  go_wp2_with (fail)
  replace F3 := Lib.hid (F3.out.upb (al1 (w3) (.cells #[.slice A5 ss.length c5, .slice B5 0 d5, .int .i64 (-1), .bool false] 25)))
  replace FB := Lib.hid (FB.out.upb (al1 (w3) (.cells #[.slice A5 ss.length c5, .slice B5 0 d5, .int .i64 (-1), .bool false] 25)))
  replace HW := Lib.hid (HW.out.upb (al1 (w3) (.cells #[.slice A5 ss.length c5, .slice B5 0 d5, .int .i64 (-1), .bool false] 25)))
  replace Z3 := Lib.hid (Z3.out.upb (al1 (w3) (.cells #[.slice A5 ss.length c5, .slice B5 0 d5, .int .i64 (-1), .bool false] 25)))
  replace F5 := Lib.hid (F5.out.upb (al1 (w3) (.cells #[.slice A5 ss.length c5, .slice B5 0 d5, .int .i64 (-1), .bool false] 25)))
  have Z5 := Lib.hid (Cells.new (w3) 25 [.slice A5 ss.length c5, .slice B5 0 d5, .int .i64 (-1), .bool false])
  refine (Restart_v F5.out).mono ?_
  rintro e w4 ⟨A6, c6, B6, d6, rfl, hd, hb, _⟩
  replace F3 := Lib.hid (F3.out.upb hb)
  replace FB := Lib.hid (FB.out.upb hb)
  replace HW := Lib.hid (HW.out.upb hb)
  replace Z3 := Lib.hid (Z3.out.upb hb)
  replace F5 := Lib.hid (F5.out.upb hb)
  replace Z5 := Lib.hid (Z5.out.upb hb)
  clear hb
  clear Z3l Z3c0 Z3c1 Z3c2 Z3c3
  have F6 := Lib.hid hd
  clear hd
  have Z3l := Z3.out.lt
  have Z3c0 := Z3.out.cell (k := 0) rfl
  have Z3c1 := Z3.out.cell (k := 1) rfl
  have Z3c2 := Z3.out.cell (k := 2) rfl
  have Z3c3 := Z3.out.cell (k := 3) rfl
  have Z5l := Z5.out.lt
  have Z5c0 := Z5.out.cell (k := 0) rfl
  have Z5c1 := Z5.out.cell (k := 1) rfl
  have Z5c2 := Z5.out.cell (k := 2) rfl
  have Z5c3 := Z5.out.cell (k := 3) rfl
  go_wp2_with (fail)
  replace F3 := Lib.hid (F3.out.upb (al1 (w4) (.cells #[.slice A6 ss.length c6, .slice B6 0 d6, .int .i64 (-1), .bool false] 25)))
  replace FB := Lib.hid (FB.out.upb (al1 (w4) (.cells #[.slice A6 ss.length c6, .slice B6 0 d6, .int .i64 (-1), .bool false] 25)))
  replace HW := Lib.hid (HW.out.upb (al1 (w4) (.cells #[.slice A6 ss.length c6, .slice B6 0 d6, .int .i64 (-1), .bool false] 25)))
  replace Z3 := Lib.hid (Z3.out.upb (al1 (w4) (.cells #[.slice A6 ss.length c6, .slice B6 0 d6, .int .i64 (-1), .bool false] 25)))
  replace F5 := Lib.hid (F5.out.upb (al1 (w4) (.cells #[.slice A6 ss.length c6, .slice B6 0 d6, .int .i64 (-1), .bool false] 25)))
  replace Z5 := Lib.hid (Z5.out.upb (al1 (w4) (.cells #[.slice A6 ss.length c6, .slice B6 0 d6, .int .i64 (-1), .bool false] 25)))
  replace F6 := Lib.hid (F6.out.upb (al1 (w4) (.cells #[.slice A6 ss.length c6, .slice B6 0 d6, .int .i64 (-1), .bool false] 25)))
  have Z6 := Lib.hid (Cells.new (w4) 25 [.slice A6 ss.length c6, .slice B6 0 d6, .int .i64 (-1), .bool false])
  refine (Same_is F5.out F6.out HL.out.1 (by simp) (decide_eq_true rfl)).mono ?_
  rintro e w5 ⟨rfl, hb⟩
  replace F3 := Lib.hid (F3.out.upb hb)
  replace FB := Lib.hid (FB.out.upb hb)
  replace HW := Lib.hid (HW.out.upb hb)
  replace Z3 := Lib.hid (Z3.out.upb hb)
  replace F5 := Lib.hid (F5.out.upb hb)
  replace Z5 := Lib.hid (Z5.out.upb hb)
  replace F6 := Lib.hid (F6.out.upb hb)
  replace Z6 := Lib.hid (Z6.out.upb hb)
  clear hb
  clear Z3l Z3c0 Z3c1 Z3c2 Z3c3 Z5l Z5c0 Z5c1 Z5c2 Z5c3
  have Z3l := Z3.out.lt
  have Z3c0 := Z3.out.cell (k := 0) rfl
  have Z3c1 := Z3.out.cell (k := 1) rfl
  have Z3c2 := Z3.out.cell (k := 2) rfl
  have Z3c3 := Z3.out.cell (k := 3) rfl
  have Z5l := Z5.out.lt
  have Z5c0 := Z5.out.cell (k := 0) rfl
  have Z5c1 := Z5.out.cell (k := 1) rfl
  have Z5c2 := Z5.out.cell (k := 2) rfl
  have Z5c3 := Z5.out.cell (k := 3) rfl
  have hns : ((ss.length : Int) != (ss.length : Int)) = false := by simp
  go_wp2_with (fail)
  go_loopw [11] (fun i wr => ∃ k q : Nat, i = .int .i64 k ∧ k ≤ ss.length ∧ wr = w5.drewN q) (fun i _ => ss.length - (intOf i).toNat)
  case atStart => exact ⟨0, 0, rfl, Nat.zero_le _, rfl⟩
  case round =>
    obtain ⟨k, q, rfl, hk, rfl⟩ := hrel
    by_cases hlt : k < ss.length
    · have hd1 : decide ((k : Int) < (ss.length : Int)) = true := decide_eq_true (by omega)
      have hkm : (k : Int) ≤ 9223372036854775806 := by have := HL.out.1; simp only at this; omega
      have hkb : (k : Int) < (ss.length : Int) := by omega
      have h11 := isD_ss F3.out
      have h12 := isD_ss F5.out
      obtain ⟨b1, off1, A7, c7, hA7, hbb1, hc1, hb1⟩ := bs_at h11 hlt
      obtain ⟨b2, off2, A8, c8, hA8, hbb2, hc2, hb2⟩ := bs_at h12 hlt
      subst hA7 hA8
      have hv1 := fun m => conv_str (show IsBytes (w5.drewN m) _ _ from hb1)
      have hv2 := fun m => conv_str (show IsBytes (w5.drewN m) _ _ from hb2)
      clear hb1 hb2 h11 h12
      generalize ss[k] = p at *
      go_wp2_with (fail)
      go_quiet (fail)
      go_wp2_with (fail)
      go_roundw
      case rel => exact ⟨k + 1, _, by go_num, by omega, by first | rfl | trivial⟩
      case measure => first | omega | (simp [intOf]; done) | (simp [intOf]; omega)
    · obtain rfl : k = ss.length := by omega
      have hd1 : decide ((ss.length : Int) < (ss.length : Int)) = false := decide_eq_false (by omega)
      clear Z5l Z5c0 Z5c1 Z5c2 Z5c3
      have Z3d := Lib.hid (show Cells (w5.drewN q) w.heap.size 25 [.slice A ss.length c, .slice A2 ps.length c2, .int .i64 left, .bool st] from Z3.out)
      have HWd := Lib.hid (show Below w.heap.size w (w5.drewN q) from below_drewN HW.out.b q)
      obtain ⟨Xq, hXq⟩ : ∃ X, w5.drewN q = X := ⟨_, rfl⟩
      simp only [hXq] at Z3d HWd ⊢
      clear hXq Z3l Z3c0 Z3c1 Z3c2 Z3c3
      have y3 := Z3d.out.cell (k := 3) rfl
      have f3 := Z3d.out.frozen 3
      have y0 := Z3d.out.cell (k := 0) rfl
      have y1 := Z3d.out.cell (k := 1) rfl
      have y2 := Z3d.out.cell (k := 2) rfl
      have yl := Z3d.out.lt
      have Z4 := Lib.hid (Z3d.out.set (k := 3) (.bool true))
      have HW4 := Lib.hid (Bl.mk (HWd.out.setCell (p := ⟨w.heap.size, 3, none⟩) (Nat.le_refl _) (.bool true)))
      have F4 := Lib.hid (show IsD (Xq.setCell ⟨w.heap.size, 3, none⟩ (.bool true)) (.agg #[.slice A ss.length c, .slice A2 ps.length c2, .int .i64 left, .bool true]) ⟨ss, ps, left, true⟩ from isD_mk (H1.out.upb HW4.out.b) (H2.out.upb HW4.out.b))
      have FB4 := Lib.hid (show IsBytes (Xq.setCell ⟨w.heap.size, 3, none⟩ (.bool true)) _ _ from HB0.out.upb HW4.out.b)
      go_wp2_with (fail)
      clear y0 y1 y2 y3 f3 yl
      obtain ⟨X9, hX9⟩ : ∃ X, Xq.setCell ⟨w.heap.size, 3, none⟩ (.bool true) = X := ⟨_, rfl⟩
      rw [hX9] at Z4 HW4 F4 FB4
      try rw [hX9]
      clear hX9
      have Z4 := Lib.hid (show Cells X9 w.heap.size 25 [.slice A ss.length c, .slice A2 ps.length c2, .int .i64 left, .bool true] from Z4.out)
      have Z4l := Z4.out.lt
      have Z4c0 := Z4.out.cell (k := 0) rfl
      have Z4c1 := Z4.out.cell (k := 1) rfl
      have Z4c2 := Z4.out.cell (k := 2) rfl
      have Z4c3 := Z4.out.cell (k := 3) rfl
      try go_wp2_with (fail)
      refine (Read_is F4.out (a := at0) (e0 := 40) (if_neg (fun h => norun h.1)) rfl).mono ?_
      rintro e w21 ⟨A7, c7, rfl, _, hb⟩
      replace Z4 := Lib.hid (Z4.out.upb hb)
      replace HW4 := Lib.hid (HW4.out.upb hb)
      replace F4 := Lib.hid (F4.out.upb hb)
      replace FB4 := Lib.hid (FB4.out.upb hb)
      clear hb
      clear Z4l Z4c0 Z4c1 Z4c2 Z4c3
      have Z4l := Z4.out.lt
      have Z4c0 := Z4.out.cell (k := 0) rfl
      have Z4c1 := Z4.out.cell (k := 1) rfl
      have Z4c2 := Z4.out.cell (k := 2) rfl
      have Z4c3 := Z4.out.cell (k := 3) rfl
      go_wp2_with (fail)
      refine (Write_is F4.out FB4.out (a := at0) (e0 := 40) (if_neg (fun h => norun h.1)) rfl).mono ?_
      rintro e w22 ⟨A8, c8, B8, d8, rfl, _, hb, _⟩
      replace Z4 := Lib.hid (Z4.out.upb hb)
      replace HW4 := Lib.hid (HW4.out.upb hb)
      replace F4 := Lib.hid (F4.out.upb hb)
      replace FB4 := Lib.hid (FB4.out.upb hb)
      clear hb
      clear Z4l Z4c0 Z4c1 Z4c2 Z4c3
      have Z4l := Z4.out.lt
      have Z4c0 := Z4.out.cell (k := 0) rfl
      have Z4c1 := Z4.out.cell (k := 1) rfl
      have Z4c2 := Z4.out.cell (k := 2) rfl
      have Z4c3 := Z4.out.cell (k := 3) rfl
      obtain ⟨r8, hr8⟩ : ∃ r, Dv.wr ⟨ss, ps, left, true⟩ at0 b = r := ⟨_, rfl⟩
      simp only [hr8]
      clear hr8
      go_wp2_with (fail)
      replace Z4 := Lib.hid (Z4.out.upb (al1 (w22) (.cells #[.slice A8 r8.ss.length c8, .slice B8 r8.ps.length d8, .int .i64 r8.left, .bool r8.st] 25)))
      replace HW4 := Lib.hid (HW4.out.upb (al1 (w22) (.cells #[.slice A8 r8.ss.length c8, .slice B8 r8.ps.length d8, .int .i64 r8.left, .bool r8.st] 25)))
      replace F4 := Lib.hid (F4.out.upb (al1 (w22) (.cells #[.slice A8 r8.ss.length c8, .slice B8 r8.ps.length d8, .int .i64 r8.left, .bool r8.st] 25)))
      replace FB4 := Lib.hid (FB4.out.upb (al1 (w22) (.cells #[.slice A8 r8.ss.length c8, .slice B8 r8.ps.length d8, .int .i64 r8.left, .bool r8.st] 25)))
      refine (Sync_is F4.out (e0 := 40) (if_neg norun) rfl).mono ?_
      rintro e w23 ⟨A9, c9, B9, d9, rfl, _, hb, _⟩
      replace Z4 := Lib.hid (Z4.out.upb hb)
      replace HW4 := Lib.hid (HW4.out.upb hb)
      replace F4 := Lib.hid (F4.out.upb hb)
      replace FB4 := Lib.hid (FB4.out.upb hb)
      clear hb
      clear Z4l Z4c0 Z4c1 Z4c2 Z4c3
      obtain ⟨r9, hr9⟩ : ∃ r, Dv.sy ⟨ss, ps, left, true⟩ = r := ⟨_, rfl⟩
      simp only [hr9]
      clear hr9
      have Z4l := Z4.out.lt
      have Z4c0 := Z4.out.cell (k := 0) rfl
      have Z4c1 := Z4.out.cell (k := 1) rfl
      have Z4c2 := Z4.out.cell (k := 2) rfl
      have Z4c3 := Z4.out.cell (k := 3) rfl
      go_wp2_with (fail)
      replace Z4 := Lib.hid (Z4.out.upb (al1 (w23) (.cells #[.slice A9 r9.ss.length c9, .slice B9 r9.ps.length d9, .int .i64 r9.left, .bool r9.st] 25)))
      replace HW4 := Lib.hid (HW4.out.upb (al1 (w23) (.cells #[.slice A9 r9.ss.length c9, .slice B9 r9.ps.length d9, .int .i64 r9.left, .bool r9.st] 25)))
      replace F4 := Lib.hid (F4.out.upb (al1 (w23) (.cells #[.slice A9 r9.ss.length c9, .slice B9 r9.ps.length d9, .int .i64 r9.left, .bool r9.st] 25)))
      replace FB4 := Lib.hid (FB4.out.upb (al1 (w23) (.cells #[.slice A9 r9.ss.length c9, .slice B9 r9.ps.length d9, .int .i64 r9.left, .bool r9.st] 25)))
      refine (Stop_is F4.out (a := l) (e0 := 40) (if_neg norun) rfl).mono ?_
      rintro e w24 ⟨A10, c10, B10, d10, rfl, _, hb, _⟩
      replace Z4 := Lib.hid (Z4.out.upb hb)
      replace HW4 := Lib.hid (HW4.out.upb hb)
      replace F4 := Lib.hid (F4.out.upb hb)
      replace FB4 := Lib.hid (FB4.out.upb hb)
      clear hb
      clear Z4l Z4c0 Z4c1 Z4c2 Z4c3
      obtain ⟨r10, hr10⟩ : ∃ r, Dv.stp ⟨ss, ps, left, true⟩ l = r := ⟨_, rfl⟩
      simp only [hr10]
      clear hr10
      go_wp2_with (fail)
      go_ret
      exact ⟨rfl, HW4.out.b.up (al1 _ _)⟩
end Go.Proofs.Ytimpnpdhhhbmgaa

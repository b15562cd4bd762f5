/- Walks of the reference's Few and of double. -/
import Derived.Test.YtimpnpdhhhbmgaaW23
namespace Go.Proofs.Ytimpnpdhhhbmgaa
open Go.RowKit
set_option linter.unusedVariables false
set_option linter.unusedSimpArgs false

set_option maxHeartbeats 4000000 in
theorem Few_any {a : Dk} {v : Value} {w : World} (hv : IsD w v a) (hl : a.ss.length ≤ 9223372036854775807) (hlp : a.ps.length ≤ 9223372036854775807) :
    Calls Try.prog 11 #[v] w fun e w' => (∃ b, e = .returned (.bool b)) ∧ Below w.heap.size w w' := by
  obtain ⟨A, c, A2, c2, rfl, h1, h2⟩ := hv.open_
  obtain ⟨ss, ps, left, st⟩ := a
  simp only at h1 h2 hl hlp ⊢
  have H1 := Lib.hid h1
  have H2 := Lib.hid h2
  have HL := Lib.hid (And.intro hl hlp)
  have HB := Lib.hid (al1 w (.cells #[.slice A ss.length c, .slice A2 ps.length c2, .int .i64 left, .bool st] 25))
  have HX := Lib.hid (Cells.new w 25 [.slice A ss.length c, .slice A2 ps.length c2, .int .i64 left, .bool st])
  clear hv h1 h2 hl hlp
  go_enter Try.func11, Try.ntmps11
  go_wp2_with (fail)
  obtain ⟨X, hX⟩ : ∃ X, w.alloc (.cells #[.slice A ss.length c, .slice A2 ps.length c2, .int .i64 left, .bool st] 25) = X := ⟨_, rfl⟩
  simp only [hX]
  rw [hX] at HB
  have HX2 := Lib.hid (show Cells X w.heap.size 25 [.slice A ss.length c, .slice A2 ps.length c2, .int .i64 left, .bool st] by rw [← hX]; exact HX.out)
  clear hX HX
  go_loopw [3, 4] (fun t i wr => ∃ (k : Nat) (n : Int), i = .int .i64 k ∧ t = .int .i64 n ∧ k ≤ ss.length ∧ Hid (Cells wr w.heap.size 25 [.slice A ss.length c, .slice A2 ps.length c2, .int .i64 left, .bool st]) ∧ Hid (Below w.heap.size w wr)) (fun _ i _ => ss.length - (intOf i).toNat)
  case atStart => exact ⟨0, 0, rfl, rfl, Nat.zero_le _, HX2, HB⟩
  case round =>
    obtain ⟨k, n, rfl, rfl, hk, HC, HBr⟩ := hrel
    have x0 := HC.out.cell (k := 0) rfl
    have x1 := HC.out.cell (k := 1) rfl
    by_cases hlt : k < ss.length
    · have hd1 : decide ((k : Int) < (ss.length : Int)) = true := decide_eq_true (by omega)
      have hkm : (k : Int) ≤ 9223372036854775806 := by have := HL.out.1; omega
      cases hd : decide (n ≤ 9000)
      ·
        go_wp2_with (fail)
        clear x0 x1
        go_loopw [3, 5] (fun t i wr => ∃ (k : Nat) (n : Int), i = .int .i64 k ∧ t = .int .i64 n ∧ k ≤ ps.length ∧ Hid (Cells wr w.heap.size 25 [.slice A ss.length c, .slice A2 ps.length c2, .int .i64 left, .bool st]) ∧ Hid (Below w.heap.size w wr)) (fun _ i _ => ps.length - (intOf i).toNat)
        case atStart => exact ⟨0, _, rfl, rfl, Nat.zero_le _, HC, HBr⟩
        case round =>
          obtain ⟨k, n, rfl, rfl, hk, HC2, HBr2⟩ := hrel
          have x1 := HC2.out.cell (k := 1) rfl
          by_cases hlt2 : k < ps.length
          · have hd1 : decide ((k : Int) < (ps.length : Int)) = true := decide_eq_true (by omega)
            have hkm : (k : Int) ≤ 9223372036854775806 := by have := HL.out.2; omega
            obtain ⟨b, off, A5, c5, hA, hb, hc1, hc1', hb1⟩ := ws_at (H2.out.upb HBr2.out) hlt2
            subst hA
            clear hb1
            generalize ps[k] = p at *
            cases hd : decide (n ≤ 9000)
            · go_wp2_with (fail)
              go_ret
              exact ⟨⟨_, rfl⟩, HBr2.out⟩
            · go_wp2_with (fail)
              go_roundw
              case rel => exact ⟨k + 1, _, by go_num, rfl, by omega, HC2, HBr2⟩
              case measure => first | omega | (simp [intOf]; done) | (simp [intOf]; omega)
          · obtain rfl : k = ps.length := by omega
            have hd1 : decide ((ps.length : Int) < (ps.length : Int)) = false := decide_eq_false (by omega)
            go_wp2_with (fail)
            go_ret
            exact ⟨⟨_, rfl⟩, HBr2.out⟩
      · obtain ⟨b, off, A5, c5, hA, hb, hc1, hb1⟩ := bs_at (H1.out.upb HBr.out) hlt
        subst hA
        clear hb1
        generalize ss[k] = p at *
        go_wp2_with (fail)
        go_roundw
        case rel => exact ⟨k + 1, _, by go_num, rfl, by omega, HC, HBr⟩
        case measure => first | omega | (simp [intOf]; done) | (simp [intOf]; omega)
    · obtain rfl : k = ss.length := by omega
      have hd1 : decide ((ss.length : Int) < (ss.length : Int)) = false := decide_eq_false (by omega)
      go_wp2_with (fail)
      clear x0 x1
      go_loopw [3, 5] (fun t i wr => ∃ (k : Nat) (n : Int), i = .int .i64 k ∧ t = .int .i64 n ∧ k ≤ ps.length ∧ Hid (Cells wr w.heap.size 25 [.slice A ss.length c, .slice A2 ps.length c2, .int .i64 left, .bool st]) ∧ Hid (Below w.heap.size w wr)) (fun _ i _ => ps.length - (intOf i).toNat)
      case atStart => exact ⟨0, _, rfl, rfl, Nat.zero_le _, HC, HBr⟩
      case round =>
        obtain ⟨k, n, rfl, rfl, hk, HC2, HBr2⟩ := hrel
        have x1 := HC2.out.cell (k := 1) rfl
        by_cases hlt2 : k < ps.length
        · have hd1 : decide ((k : Int) < (ps.length : Int)) = true := decide_eq_true (by omega)
          have hkm : (k : Int) ≤ 9223372036854775806 := by have := HL.out.2; omega
          obtain ⟨b, off, A5, c5, hA, hb, hc1, hc1', hb1⟩ := ws_at (H2.out.upb HBr2.out) hlt2
          subst hA
          clear hb1
          generalize ps[k] = p at *
          cases hd : decide (n ≤ 9000)
          · go_wp2_with (fail)
            go_ret
            exact ⟨⟨_, rfl⟩, HBr2.out⟩
          · go_wp2_with (fail)
            go_roundw
            case rel => exact ⟨k + 1, _, by go_num, rfl, by omega, HC2, HBr2⟩
            case measure => first | omega | (simp [intOf]; done) | (simp [intOf]; omega)
        · obtain rfl : k = ps.length := by omega
          have hd1 : decide ((ps.length : Int) < (ps.length : Int)) = false := decide_eq_false (by omega)
          go_wp2_with (fail)
          go_ret
          exact ⟨⟨_, rfl⟩, HBr2.out⟩

theorem dbl_eq (c : UInt8) : ((Dv.zs.set 0 c).set 64 c) = Dv.dbl c := by
  unfold Dv.zs Dv.dbl
  rfl

set_option maxHeartbeats 4000000 in
theorem double_any {c : UInt8} {w : World} :
    Calls Try.prog 27 #[.int .u8 (c.toNat : Int)] w fun e w' => ∃ u, e = .returned u ∧ IsBytes w' u (Dv.dbl c) ∧ Below w.heap.size w w' := by
  obtain ⟨ZL, hZL, hmk⟩ := make_zs
  have HZL := Lib.hid hZL
  have HC := Lib.hid (Cells.new w 5 ZL)
  have HD := Lib.hid (show ((ZL.set 0 (encB c)).set 64 (encB c)) = (Dv.dbl c).map encB by rw [hZL, ← dbl_eq, List.map_set, List.map_set])
  have HLN := Lib.hid (show ZL.length = 128 by rw [hZL, List.length_map]; exact List.length_replicate ..)
  have hz0 : ZL[0]? = some (ZL[0]'(by rw [HLN.out]; omega)) := List.getElem?_eq_getElem _
  have hz1 : ZL[64]? = some (ZL[64]'(by rw [HLN.out]; omega)) := List.getElem?_eq_getElem _
  obtain ⟨z0, hz0'⟩ : ∃ z0, ZL[0]? = some z0 := ⟨_, hz0⟩
  obtain ⟨z1, hz1'⟩ : ∃ z1, ZL[64]? = some z1 := ⟨_, hz1⟩
  clear hz0 hz1 hZL
  go_enter Try.func27, Try.ntmps27
  go_wp2_with (fail)
  go_ret
  exact ⟨_, rfl, bytes_cells (bs := Dv.dbl c) (by rw [← HD.out]; exact Cells.new w 5 _) (show 128 = (Dv.dbl c).length from rfl) (Nat.le_refl _), al1 _ _⟩
end Go.Proofs.Ytimpnpdhhhbmgaa

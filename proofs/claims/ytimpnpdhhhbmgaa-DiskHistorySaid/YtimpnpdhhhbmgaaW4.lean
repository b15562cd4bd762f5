/- Walk of the reference's Check. -/
import Derived.Test.YtimpnpdhhhbmgaaW3
namespace Go.Proofs.Ytimpnpdhhhbmgaa
open Go.RowKit
set_option linter.unusedVariables false
set_option linter.unusedSimpArgs false

set_option maxHeartbeats 4000000 in
theorem refCheck_any {d : Dk} {v : Value} {w : World} (hv : IsD w v d) :
    Calls Try.prog 16 #[v] w fun e w' => e = .returned (.int .i64 (Dv.chk d)) ∧ Below w.heap.size w w' := by
  obtain ⟨A, c, A2, c2, rfl, h1, h2⟩ := hv.open_
  obtain ⟨ss, ps, left, st⟩ := d
  simp only at h1 h2
  have H1 := Lib.hid h1
  have H2 := Lib.hid h2
  obtain ⟨r, hr⟩ : ∃ r, Dv.chk ⟨ss, ps, left, st⟩ = r := ⟨_, rfl⟩
  have HR := Lib.hid hr
  rw [hr]
  clear h1 h2 hr hv
  simp only
  by_cases en1 : (ss.length : Int) < 1
  · have dn1 : decide ((ss.length : Int) < 1) = true := decide_eq_true en1
    obtain rfl : r = 40 := by rw [← HR.out]; exact chk_no (fun h => by have := h.n1; simp only at this; omega)
    go_enter Try.func16, Try.ntmps16
    go_wp2_with (fail)
    go_ret
    exact ⟨rfl, by first | exact al1 _ _ | exact (al1 _ _).up (al1 _ _) | exact ((al1 _ _).up (al1 _ _)).up (al1 _ _)⟩
  have dn1 : decide ((ss.length : Int) < 1) = false := decide_eq_false en1
  by_cases en2 : (4096 : Int) < (ss.length : Int)
  · have dn2 : decide ((4096 : Int) < (ss.length : Int)) = true := decide_eq_true en2
    obtain rfl : r = 40 := by rw [← HR.out]; exact chk_no (fun h => by have := h.n2; simp only at this; omega)
    go_enter Try.func16, Try.ntmps16
    go_wp2_with (fail)
    go_ret
    exact ⟨rfl, by first | exact al1 _ _ | exact (al1 _ _).up (al1 _ _) | exact ((al1 _ _).up (al1 _ _)).up (al1 _ _)⟩
  have dn2 : decide ((4096 : Int) < (ss.length : Int)) = false := decide_eq_false en2
  by_cases ep2 : (4096 : Int) < (ps.length : Int)
  · have dp2 : decide ((4096 : Int) < (ps.length : Int)) = true := decide_eq_true ep2
    obtain rfl : r = 40 := by rw [← HR.out]; exact chk_no (fun h => by have := h.p2; simp only at this; omega)
    go_enter Try.func16, Try.ntmps16
    go_wp2_with (fail)
    go_ret
    exact ⟨rfl, by first | exact al1 _ _ | exact (al1 _ _).up (al1 _ _) | exact ((al1 _ _).up (al1 _ _)).up (al1 _ _)⟩
  have dp2 : decide ((4096 : Int) < (ps.length : Int)) = false := decide_eq_false ep2
  by_cases el1 : left < -1
  · have dl1 : decide (left < -1) = true := decide_eq_true el1
    obtain rfl : r = 40 := by rw [← HR.out]; exact chk_no (fun h => by have := h.l1; simp only at this; omega)
    go_enter Try.func16, Try.ntmps16
    go_wp2_with (fail)
    go_ret
    exact ⟨rfl, by first | exact al1 _ _ | exact (al1 _ _).up (al1 _ _) | exact ((al1 _ _).up (al1 _ _)).up (al1 _ _)⟩
  have dl1 : decide (left < -1) = false := decide_eq_false el1
  by_cases el2 : (65536 : Int) < left
  · have dl2 : decide ((65536 : Int) < left) = true := decide_eq_true el2
    obtain rfl : r = 40 := by rw [← HR.out]; exact chk_no (fun h => by have := h.l2; simp only at this; omega)
    go_enter Try.func16, Try.ntmps16
    go_wp2_with (fail)
    go_ret
    exact ⟨rfl, by first | exact al1 _ _ | exact (al1 _ _).up (al1 _ _) | exact ((al1 _ _).up (al1 _ _)).up (al1 _ _)⟩
  have dl2 : decide ((65536 : Int) < left) = false := decide_eq_false el2
  have HOK := Lib.hid (show ps.any (Dv.badW ss.length) = false → ss.any Dv.badS = false → r = 0 from fun h1 h2 => by
    rw [← HR.out]
    refine chk_yes ⟨?_, ?_, ?_, ?_, ?_, ?_, ?_⟩
    · simp only; omega
    · simp only; omega
    · simp only; omega
    · simp only; omega
    · simp only; omega
    · exact h1
    · exact h2)
  have HNW := Lib.hid (show ∀ k (hk : k < ps.length), Dv.badW ss.length ps[k] = true → r = 40 from fun k hk h => by
    rw [← HR.out]
    refine chk_no (fun h2 => ?_)
    have h3 := h2.ps
    simp only at h3
    rw [any_yes hk h] at h3
    cases h3)
  have HNS := Lib.hid (show ∀ k (hk : k < ss.length), Dv.badS ss[k] = true → r = 40 from fun k hk h => by
    rw [← HR.out]
    refine chk_no (fun h2 => ?_)
    have h3 := h2.ss
    simp only at h3
    rw [any_yes hk h] at h3
    cases h3)
  have HN := Lib.hid (show ps.length ≤ 4096 ∧ ss.length ≤ 4096 by omega)
  have hn4 : (ss.length : Int) ≤ 4096 := by omega
  have hp4 : (ps.length : Int) ≤ 4096 := by omega
  clear en1 en2 ep2 el1 el2
  go_enter Try.func16, Try.ntmps16
  go_wp2_with (fail)
  have HX := Lib.hid (Cells.new w 25 [Value.slice A ss.length c, Value.slice A2 ps.length c2, Value.int IntKind.i64 left, Value.bool st])
  have HB0 := Lib.hid (al1 w (Obj.cells #[Value.slice A ss.length c, Value.slice A2 ps.length c2, Value.int IntKind.i64 left, Value.bool st] 25))
  go_loopw [4] (fun i wr => ∃ k : Nat, i = .int .i64 k ∧ k ≤ ss.length ∧ Hid (∀ j, j < k → (hj : j < ss.length) → Dv.badS ss[j] = false) ∧ wr = (w.alloc (Obj.cells #[Value.slice A ss.length c, Value.slice A2 ps.length c2, Value.int IntKind.i64 left, Value.bool st] 25))) (fun i _ => ss.length - (intOf i).toNat)
  case atStart => exact ⟨0, rfl, Nat.zero_le _, Lib.hid (fun j h hj => by omega), rfl⟩
  case round =>
    obtain ⟨k, rfl, hk, HNo, rfl⟩ := hrel
    by_cases hlt2 : k < ss.length
    · obtain ⟨b, off, A', c', rfl, hb, hc1, hc3⟩ := bs_at (H1.out.upb HB0.out) hlt2
      have hc0 := HX.out.cell (k := 0) rfl
      have HP := Lib.hid (show Dv.badS ss[k] = false → ∀ j, j < k + 1 → (hj : j < ss.length) → Dv.badS ss[j] = false from fun h0 j hj hj2 => by
        rcases Nat.lt_or_ge j k with h3 | h3
        · exact HNo.out j h3 hj2
        · obtain rfl : j = k := by omega
          exact h0)
      have HY := Lib.hid (HNS.out k hlt2)
      generalize ss[k] = p at *
      have HE := Lib.hid (show ((p.length : Int) != 128) = Dv.badS p by rw [bne, len128]; simp)
      obtain ⟨x, hx⟩ : ∃ x, Dv.badS p = x := ⟨_, rfl⟩
      have hx2 : ((p.length : Int) != 128) = x := by rw [HE.out, hx]
      have HX2 := Lib.hid hx
      clear hx hc3
      cases x with
      | true =>
        obtain rfl := HY.out HX2.out
        go_wp2_with (fail)
        go_ret
        exact ⟨rfl, HB0.out⟩
      | false =>
        go_wp2_with (fail)
        go_roundw
        case rel => exact ⟨k + 1, by go_num, by omega, Lib.hid (HP.out HX2.out), by first | trivial | rfl⟩
        case measure => first | omega | (simp [intOf]; done) | (simp [intOf]; omega)
    · obtain rfl : k = ss.length := by omega
      have HSS := Lib.hid (any_no (f := Dv.badS) (fun j hj => HNo.out j hj hj))
      clear HNo
      go_wp2_with (fail)
      go_loopw [5] (fun i wr => ∃ k : Nat, i = .int .i64 k ∧ k ≤ ps.length ∧ Hid (∀ j, j < k → (hj : j < ps.length) → Dv.badW ss.length ps[j] = false) ∧ Hid (Cells wr w.heap.size 25 [Value.slice A ss.length c, Value.slice A2 ps.length c2, Value.int IntKind.i64 left, Value.bool st]) ∧ Hid (Below w.heap.size w wr)) (fun i _ => ps.length - (intOf i).toNat)
      case atStart => exact ⟨0, rfl, Nat.zero_le _, Lib.hid (fun j h hj => by omega), HX, HB0⟩
      case round =>
        obtain ⟨k, rfl, hk, HNo, HXr, HB⟩ := hrel
        have hc1 := HXr.out.cell (k := 1) rfl
        by_cases hlt2 : k < ps.length
        · obtain ⟨b, off, A', c', rfl, hb, hcc1, hcc2, hc3⟩ := ws_at (H2.out.upb HB.out) hlt2
          have HP := Lib.hid (show Dv.badW ss.length ps[k] = false → ∀ j, j < k + 1 → (hj : j < ps.length) → Dv.badW ss.length ps[j] = false from fun h0 j hj hj2 => by
            rcases Nat.lt_or_ge j k with h3 | h3
            · exact HNo.out j h3 hj2
            · obtain rfl : j = k := by omega
              exact h0)
          have HY := Lib.hid (HNW.out k hlt2)
          generalize ps[k] = p at *
          by_cases t1 : p.at_ < 0
          · have dt1 : decide (p.at_ < 0) = true := decide_eq_true t1
            obtain rfl := HY.out (by unfold Dv.badW; simp [t1])
            clear hc3 t1
            go_wp2_with (fail)
            go_ret
            exact ⟨rfl, HB.out.up (al1 _ _)⟩
          have dt1 : decide (p.at_ < 0) = false := decide_eq_false t1
          by_cases t2 : (ss.length : Int) ≤ p.at_
          · have dt2 : decide ((ss.length : Int) ≤ p.at_) = true := decide_eq_true t2
            obtain rfl := HY.out (by unfold Dv.badW; simp [t2])
            clear hc3 t1 t2
            go_wp2_with (fail)
            go_ret
            exact ⟨rfl, HB.out.up (al1 _ _)⟩
          have dt2 : decide ((ss.length : Int) ≤ p.at_) = false := decide_eq_false t2
          have HE := Lib.hid (show Dv.badW ss.length p = ((p.data.length : Int) != 128) by rw [bne, len128]; unfold Dv.badW Dv.badS; simp [t1, t2])
          clear hc3 t1 t2
          obtain ⟨x, hx⟩ : ∃ x, ((p.data.length : Int) != 128) = x := ⟨_, rfl⟩
          have HX2 := Lib.hid (HE.out.trans hx)
          cases x with
          | true =>
            obtain rfl := HY.out HX2.out
            go_wp2_with (fail)
            go_ret
            exact ⟨rfl, HB.out.up (al1 _ _)⟩
          | false =>
            go_wp2_with (fail)
            go_roundw
            case rel => exact ⟨k + 1, by go_num, by omega, Lib.hid (HP.out HX2.out), Lib.hid (HXr.out.upb (al1 _ _)), Lib.hid (HB.out.up (al1 _ _))⟩
            case measure => first | omega | (simp [intOf]; done) | (simp [intOf]; omega)
        · obtain rfl : k = ps.length := by omega
          obtain rfl := HOK.out (any_no (fun j hj => HNo.out j hj hj)) HSS.out
          go_wp2_with (fail)
          go_ret
          exact ⟨rfl, HB.out⟩

end Go.Proofs.Ytimpnpdhhhbmgaa

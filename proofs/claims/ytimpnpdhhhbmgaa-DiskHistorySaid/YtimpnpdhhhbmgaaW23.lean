/- Walk of the reference's Same. -/
import Derived.Test.YtimpnpdhhhbmgaaW22
import Derived.StillTailTactics
namespace Go.Proofs.Ytimpnpdhhhbmgaa
open Go.RowKit
set_option linter.unusedVariables false
set_option linter.unusedSimpArgs false

theorem toA_ne {a b : By} (h : a ≠ b) : decide ((⟨a.toArray⟩ : ByteArray) = ⟨b.toArray⟩) = false := by
  rw [decide_eq_false_iff_not]
  intro e
  injection e with e
  exact h (by have := congrArg Array.toList e; simpa using this)

set_option maxHeartbeats 8000000 in
theorem Same_any {a b : Dk} {v u : Value} {w : World} (hv : IsD w v a) (hu : IsD w u b) (hl : a.ss.length ≤ 9223372036854775807) (hlp : a.ps.length ≤ 9223372036854775807) :
    Calls Try.prog 14 #[v, u] w fun e w' => e = .returned (.bool (decide (a = b))) ∧ Below w.heap.size w w' := by
  obtain ⟨A, c, A2, c2, rfl, h1, h2⟩ := hv.open_
  obtain ⟨A3, c3, A4, c4, rfl, h3, h4⟩ := hu.open_
  obtain ⟨ss, ps, left, st⟩ := a
  obtain ⟨ss2, ps2, left2, st2⟩ := b
  simp only at h1 h2 h3 h4 hl hlp ⊢
  have H1 := Lib.hid h1
  have H2 := Lib.hid h2
  have H3 := Lib.hid h3
  have H4 := Lib.hid h4
  have HL := Lib.hid (And.intro hl hlp)
  clear hv hu h1 h2 h3 h4
  obtain ⟨r, hr⟩ : ∃ r, decide ((⟨ss, ps, left, st⟩ : Dk) = ⟨ss2, ps2, left2, st2⟩) = r := ⟨_, rfl⟩
  rw [hr]
  have HR := Lib.hid hr
  have HNO := Lib.hid (show ¬ ((⟨ss, ps, left, st⟩ : Dk) = ⟨ss2, ps2, left2, st2⟩) → r = false from fun h => by rw [← hr]; exact decide_eq_false h)
  clear hr
  have HB := Lib.hid ((al1 w (.cells #[.slice A ss.length c, .slice A2 ps.length c2, .int .i64 left, .bool st] 25)).up (al1 _ (.cells #[.slice A3 ss2.length c3, .slice A4 ps2.length c4, .int .i64 left2, .bool st2] 25)))
  by_cases e1 : ss.length = ss2.length
  case neg =>
    obtain rfl : r = false := HNO.out (fun h => e1 (by injection h with q1 q2 q3 q4; rw [q1]))
    have hl1 : ((ss.length : Int) != (ss2.length : Int)) = true := by rw [bne_iff_ne]; omega
    clear e1
    go_enter Try.func14, Try.ntmps14
    go_wp2_with (fail)
    go_ret
    exact ⟨rfl, HB.out⟩
  have E1 := Lib.hid e1
  have hl1 : ((ss.length : Int) != (ss2.length : Int)) = false := by simp [e1]
  clear e1
  by_cases e2 : ps.length = ps2.length
  case neg =>
    obtain rfl : r = false := HNO.out (fun h => e2 (by injection h with q1 q2 q3 q4; rw [q2]))
    have hl2 : ((ps.length : Int) != (ps2.length : Int)) = true := by rw [bne_iff_ne]; omega
    clear e2
    go_enter Try.func14, Try.ntmps14
    go_wp2_with (fail)
    go_ret
    exact ⟨rfl, HB.out⟩
  have E2 := Lib.hid e2
  have hl2 : ((ps.length : Int) != (ps2.length : Int)) = false := by simp [e2]
  clear e2
  by_cases e3 : left = left2
  case neg =>
    obtain rfl : r = false := HNO.out (fun h => e3 (by injection h))
    have hl3 : (left != left2) = true := by rw [bne_iff_ne]; exact e3
    clear e3
    go_enter Try.func14, Try.ntmps14
    go_wp2_with (fail)
    go_ret
    exact ⟨rfl, HB.out⟩
  have E3 := Lib.hid e3
  have hl3 : (left != left2) = false := by simp [e3]
  clear e3
  by_cases e4 : st = st2
  case neg =>
    obtain rfl : r = false := HNO.out (fun h => e4 (by injection h))
    have hl4 : (!(st == st2)) = true := by cases st <;> cases st2 <;> simp_all
    clear e4
    go_enter Try.func14, Try.ntmps14
    go_wp2_with (fail)
    go_ret
    exact ⟨rfl, HB.out⟩
  have E4 := Lib.hid e4
  have hl4 : (!(st == st2)) = false := by simp [e4]
  clear e4
  have HE1 := Lib.hid (And.intro E1.out E2.out)
  have HE3 := Lib.hid (And.intro E3.out E4.out)
  have HX := Lib.hid (((Cells.new w 25 [.slice A ss.length c, .slice A2 ps.length c2, .int .i64 left, .bool st])).upb (al1 _ (.cells #[.slice A3 ss2.length c3, .slice A4 ps2.length c4, .int .i64 left2, .bool st2] 25)))
  have HY := Lib.hid (Cells.new (w.alloc (.cells #[.slice A ss.length c, .slice A2 ps.length c2, .int .i64 left, .bool st] 25)) 25 [.slice A3 ss2.length c3, .slice A4 ps2.length c4, .int .i64 left2, .bool st2])
  simp only [World.size_alloc] at HY
  clear hl hlp
  go_enter Try.func14, Try.ntmps14
  go_wp2_with (fail)
  obtain ⟨X, hX⟩ : ∃ X, (w.alloc (.cells #[.slice A ss.length c, .slice A2 ps.length c2, .int .i64 left, .bool st] 25)).alloc (.cells #[.slice A3 ss2.length c3, .slice A4 ps2.length c4, .int .i64 left2, .bool st2] 25) = X := ⟨_, rfl⟩
  simp only [hX]
  rw [hX] at HB
  have HX2 := Lib.hid (show Cells X w.heap.size 25 [.slice A ss.length c, .slice A2 ps.length c2, .int .i64 left, .bool st] by rw [← hX]; exact HX.out)
  have HY2 := Lib.hid (show Cells X (w.heap.size + 1) 25 [.slice A3 ss2.length c3, .slice A4 ps2.length c4, .int .i64 left2, .bool st2] by rw [← hX]; exact HY.out)
  clear hX HX HY hl1 hl2 hl3 hl4
  have x0 := HX2.out.cell (k := 0) rfl
  have x1 := HX2.out.cell (k := 1) rfl
  have y0 := HY2.out.cell (k := 0) rfl
  have y1 := HY2.out.cell (k := 1) rfl
  go_loopw [5] (fun i wr => ∃ k q : Nat, i = .int .i64 k ∧ k ≤ ss.length ∧ Hid (∀ j, j < k → ss[j]? = ss2[j]?) ∧ wr = X.drewN q) (fun i _ => ss.length - (intOf i).toNat)
  case atStart => exact ⟨0, 0, rfl, Nat.zero_le _, Lib.hid (fun j h => by omega), rfl⟩
  case round =>
    obtain ⟨k, q, rfl, hk, HNo, rfl⟩ := hrel
    by_cases hlt : k < ss.length
    · have hlt2 : k < ss2.length := by rw [← HE1.out.1]; exact hlt
      have hd1 : decide ((k : Int) < (ss.length : Int)) = true := decide_eq_true (by omega)
      have hkb : (k : Int) < (ss2.length : Int) := by omega
      have hkm : (k : Int) ≤ 9223372036854775806 := by have := HL.out.1; omega
      obtain ⟨b, off, A5, c5, hA, hb, hc1, hb1⟩ := bs_at (H1.out.upb HB.out) hlt
      obtain ⟨b', off', A6, c6, hA', hb', hc2, hb2⟩ := bs_at (H3.out.upb HB.out) hlt2
      subst hA hA'
      have hv1 := fun m => conv_str (show IsBytes (X.drewN m) _ _ from hb1)
      have hv2 := fun m => conv_str (show IsBytes (X.drewN m) _ _ from hb2)
      have HNX := Lib.hid (show ss[k] = ss2[k] → ∀ j, j < k + 1 → ss[j]? = ss2[j]? from fun h j hj => by
        rcases Nat.lt_or_ge j k with h3 | h3
        · exact HNo.out j h3
        · obtain rfl : j = k := by omega
          rw [List.getElem?_eq_getElem hlt, List.getElem?_eq_getElem hlt2, h])
      have HNE := Lib.hid (show ¬ ss[k] = ss2[k] → r = false from fun h => HNO.out (fun e => h (by injection e with e _ _ _; subst e; rfl)))
      clear hb1 hb2
      generalize ss[k] = p at *
      generalize ss2[k] = p2 at *
      by_cases he : p = p2
      · subst he
        have HN2 := Lib.hid (HNX.out rfl)
        go_wp2_with (fail)
        go_quiet (fail)
        go_wp2_with (fail)
        go_roundw
        case rel => exact ⟨k + 1, _, by go_num, by omega, HN2, by first | rfl | trivial⟩
        case measure => first | omega | (simp [intOf]; done) | (simp [intOf]; omega)
      · have hne := beq_false_of_ne he
        obtain rfl := HNE.out he
        clear he
        go_wp2_with (fail)
        go_quiet (fail)
        go_wp2_with (fail)
        go_ret
        exact ⟨rfl, below_drewN (below_drewN HB.out _) _⟩
    · obtain rfl : k = ss.length := by omega
      have hd1 : decide ((ss.length : Int) < (ss.length : Int)) = false := decide_eq_false (by omega)
      have HSS := Lib.hid (show ss = ss2 from List.ext_getElem? (fun j => by
        rcases Nat.lt_or_ge j ss.length with h3 | h3
        · exact HNo.out j h3
        · rw [List.getElem?_eq_none h3, List.getElem?_eq_none (by rw [← HE1.out.1]; exact h3)]))
      clear HNo
      go_wp2_with (fail)
      go_loopw [6] (fun i wr => ∃ k q : Nat, i = .int .i64 k ∧ k ≤ ps.length ∧ Hid (∀ j, j < k → ps[j]? = ps2[j]?) ∧ wr = X.drewN q) (fun i _ => ps.length - (intOf i).toNat)
      case atStart => exact ⟨0, q, rfl, Nat.zero_le _, Lib.hid (fun j h => by omega), rfl⟩
      case round =>
        obtain ⟨k, q, rfl, hk, HNo, rfl⟩ := hrel
        by_cases hlt : k < ps.length
        · have hlt2 : k < ps2.length := by rw [← HE1.out.2]; exact hlt
          have hd1 : decide ((k : Int) < (ps.length : Int)) = true := decide_eq_true (by omega)
          have hkb : (k : Int) < (ps2.length : Int) := by omega
          have hkm : (k : Int) ≤ 9223372036854775806 := by have := HL.out.2; omega
          obtain ⟨b, off, A5, c5, hA, hb, hc1, hc1', hb1⟩ := ws_at (H2.out.upb HB.out) hlt
          obtain ⟨b', off', A6, c6, hA', hb', hc2, hc2', hb2⟩ := ws_at (H4.out.upb HB.out) hlt2
          subst hA hA'
          have hv1 := fun m => conv_str (show IsBytes (X.drewN m) _ _ from hb1)
          have hv2 := fun m => conv_str (show IsBytes (X.drewN m) _ _ from hb2)
          have HNX := Lib.hid (show ps[k] = ps2[k] → ∀ j, j < k + 1 → ps[j]? = ps2[j]? from fun h j hj => by
            rcases Nat.lt_or_ge j k with h3 | h3
            · exact HNo.out j h3
            · obtain rfl : j = k := by omega
              rw [List.getElem?_eq_getElem hlt, List.getElem?_eq_getElem hlt2, h])
          have HNE := Lib.hid (show ¬ ps[k] = ps2[k] → r = false from fun h => HNO.out (fun e => h (by injection e with _ e _ _; subst e; rfl)))
          clear hb1 hb2
          generalize ps[k] = p at *
          generalize ps2[k] = p2 at *
          obtain ⟨a1, d1⟩ := p
          obtain ⟨a2, d2⟩ := p2
          simp only at hc1 hc1' hc2 hc2' hv1 hv2
          by_cases ha : a1 = a2
          · subst ha
            have han : (a1 != a1) = false := by simp
            by_cases he : d1 = d2
            · subst he
              have HN2 := Lib.hid (HNX.out rfl)
              go_wp2_with (fail)
              go_quiet (fail)
              go_wp2_with (fail)
              go_roundw
              case rel => exact ⟨k + 1, _, by go_num, by omega, HN2, by first | rfl | trivial⟩
              case measure => first | omega | (simp [intOf]; done) | (simp [intOf]; omega)
            · have hne := beq_false_of_ne he
              obtain rfl := HNE.out (fun h => he (by injection h))
              clear he
              go_wp2_with (fail)
              go_quiet (fail)
              go_wp2_with (fail)
              go_ret
              exact ⟨rfl, below_drewN (below_drewN HB.out _) _⟩
          · have han : (a1 != a2) = true := by rw [bne_iff_ne]; exact ha
            obtain rfl := HNE.out (fun h => ha (by injection h))
            clear ha
            go_wp2_with (fail)
            go_quiet (fail)
            go_wp2_with (fail)
            go_ret
            exact ⟨rfl, below_drewN (below_drewN HB.out _) _⟩
        · obtain rfl : k = ps.length := by omega
          have hd1 : decide ((ps.length : Int) < (ps.length : Int)) = false := decide_eq_false (by omega)
          have hps : ps = ps2 := List.ext_getElem? (fun j => by
            rcases Nat.lt_or_ge j ps.length with h3 | h3
            · exact HNo.out j h3
            · rw [List.getElem?_eq_none h3, List.getElem?_eq_none (by rw [← HE1.out.2]; exact h3)])
          obtain rfl : r = true := by rw [← HR.out]; rw [HSS.out, hps, HE3.out.1, HE3.out.2]; simp
          clear hps
          go_wp2_with (fail)
          go_ret
          exact ⟨rfl, below_drewN HB.out _⟩
end Go.Proofs.Ytimpnpdhhhbmgaa

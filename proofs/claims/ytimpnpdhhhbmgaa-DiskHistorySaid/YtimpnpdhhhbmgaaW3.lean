/- Walk of Check. -/
import Derived.Test.YtimpnpdhhhbmgaaW2
import Derived.Laws.NewBlocks
import Derived.Laws.EntriesVeiled
namespace Go.Proofs.Ytimpnpdhhhbmgaa
open Go.RowKit
set_option linter.unusedVariables false
set_option linter.unusedSimpArgs false

theorem cell_box1 (w : World) (o : Obj) (v : Value) (t : TypeId) : ((w.alloc o).alloc (.cells #[v] t)).cell? ⟨w.heap.size + 1, 0, none⟩ = some v := by
  simp
theorem chk_no {d : Dk} (h : ¬ Dv.Ok d) : Dv.chk d = 40 := if_neg h
theorem chk_yes {d : Dk} (h : Dv.Ok d) : Dv.chk d = 0 := if_pos h

set_option maxHeartbeats 4000000 in
theorem Check_any {d : Dk} {v : Value} {w : World} (hv : IsD w v d) :
    Calls Try.prog 15 #[v] w fun e w' => e = .returned (.int .i64 (Dv.chk d)) ∧ Below w.heap.size w w' := by
  obtain ⟨A, c, A2, c2, rfl, h1, h2⟩ := hv.open_
  obtain ⟨ss, ps, left, st⟩ := d
  simp only at h1 h2
  have H1 := Lib.hid h1
  have H2 := Lib.hid h2
  obtain ⟨r, hr⟩ : ∃ r, Dv.chk ⟨ss, ps, left, st⟩ = r := ⟨_, rfl⟩
  have HR := Lib.hid hr
  rw [hr]
  clear h1 h2 hr hv
  simp only
  by_cases en1 : (ss.length : Int) < 1
  · have dn1 : decide ((ss.length : Int) < 1) = true := decide_eq_true en1
    obtain rfl : r = 40 := by rw [← HR.out]; exact chk_no (fun h => by have := h.n1; simp only at this; omega)
    go_enter Try.func15, Try.ntmps15
    go_wp2_with (fail)
    go_ret
    exact ⟨rfl, by first | exact al1 _ _ | exact (al1 _ _).up (al1 _ _) | exact ((al1 _ _).up (al1 _ _)).up (al1 _ _)⟩
  have dn1 : decide ((ss.length : Int) < 1) = false := decide_eq_false en1
  by_cases en2 : (4096 : Int) < (ss.length : Int)
  · have dn2 : decide ((4096 : Int) < (ss.length : Int)) = true := decide_eq_true en2
    obtain rfl : r = 40 := by rw [← HR.out]; exact chk_no (fun h => by have := h.n2; simp only at this; omega)
    go_enter Try.func15, Try.ntmps15
    go_wp2_with (fail)
    go_ret
    exact ⟨rfl, by first | exact al1 _ _ | exact (al1 _ _).up (al1 _ _) | exact ((al1 _ _).up (al1 _ _)).up (al1 _ _)⟩
  have dn2 : decide ((4096 : Int) < (ss.length : Int)) = false := decide_eq_false en2
  by_cases ep2 : (4096 : Int) < (ps.length : Int)
  · have dp2 : decide ((4096 : Int) < (ps.length : Int)) = true := decide_eq_true ep2
    obtain rfl : r = 40 := by rw [← HR.out]; exact chk_no (fun h => by have := h.p2; simp only at this; omega)
    go_enter Try.func15, Try.ntmps15
    go_wp2_with (fail)
    go_ret
    exact ⟨rfl, by first | exact al1 _ _ | exact (al1 _ _).up (al1 _ _) | exact ((al1 _ _).up (al1 _ _)).up (al1 _ _)⟩
  have dp2 : decide ((4096 : Int) < (ps.length : Int)) = false := decide_eq_false ep2
  by_cases el1 : left < -1
  · have dl1 : decide (left < -1) = true := decide_eq_true el1
    obtain rfl : r = 40 := by rw [← HR.out]; exact chk_no (fun h => by have := h.l1; simp only at this; omega)
    go_enter Try.func15, Try.ntmps15
    go_wp2_with (fail)
    go_ret
    exact ⟨rfl, by first | exact al1 _ _ | exact (al1 _ _).up (al1 _ _) | exact ((al1 _ _).up (al1 _ _)).up (al1 _ _)⟩
  have dl1 : decide (left < -1) = false := decide_eq_false el1
  by_cases el2 : (65536 : Int) < left
  · have dl2 : decide ((65536 : Int) < left) = true := decide_eq_true el2
    obtain rfl : r = 40 := by rw [← HR.out]; exact chk_no (fun h => by have := h.l2; simp only at this; omega)
    go_enter Try.func15, Try.ntmps15
    go_wp2_with (fail)
    go_ret
    exact ⟨rfl, by first | exact al1 _ _ | exact (al1 _ _).up (al1 _ _) | exact ((al1 _ _).up (al1 _ _)).up (al1 _ _)⟩
  have dl2 : decide ((65536 : Int) < left) = false := decide_eq_false el2
  obtain ⟨b1, hb1⟩ : ∃ b1, ps.any (Dv.badW ss.length) = b1 := ⟨_, rfl⟩
  obtain ⟨b2, hb2⟩ : ∃ b2, ss.any Dv.badS = b2 := ⟨_, rfl⟩
  have HN := Lib.hid (show ps.length ≤ 4096 ∧ ss.length ≤ 4096 by omega)
  obtain rfl : r = if b1 || b2 then 40 else 0 := by
    rw [← HR.out]
    by_cases hh : (b1 || b2) = true
    · rw [if_pos hh]
      refine chk_no (fun h => ?_)
      have h3 := h.ps
      have h4 := h.ss
      simp only at h3 h4
      rw [h3] at hb1; rw [h4] at hb2
      subst hb1 hb2
      cases hh
    · rw [if_neg hh]
      have hh2 : b1 = false ∧ b2 = false := by cases b1 <;> cases b2 <;> simp_all
      refine chk_yes ⟨?_, ?_, ?_, ?_, ?_, ?_, ?_⟩
      · simp only; omega
      · simp only; omega
      · simp only; omega
      · simp only; omega
      · simp only; omega
      · simp only; rw [hb1]; exact hh2.1
      · simp only; rw [hb2]; exact hh2.2
  have HB1 := Lib.hid hb1
  have HB2 := Lib.hid hb2
  clear hb1 hb2 en1 en2 ep2 el1 el2
  go_enter Try.func15, Try.ntmps15
  go_wp2_with (fail)
  refine (hasW_any (n := ss.length) (H2.out.upb ((al1 _ _).up (al1 _ _))) ?_ HN.out.1).mono ?_
  · exact cell_box1 _ _ _ _
  rintro e w1 ⟨rfl, bb1⟩
  rw [HB1.out]
  have HBB := Lib.hid (((al1 w (Obj.cells #[Value.slice A ss.length c, Value.slice A2 ps.length c2, Value.int IntKind.i64 left, Value.bool st] 25)).up (al1 _ (Obj.cells #[Value.int IntKind.i64 ↑ss.length] 3))).up bb1)
  have hc0 := (((Cells.new w 25 [Value.slice A ss.length c, Value.slice A2 ps.length c2, Value.int IntKind.i64 left, Value.bool st]).upb (al1 _ (Obj.cells #[Value.int IntKind.i64 ↑ss.length] 3))).upb bb1).cell (k := 0) rfl
  clear bb1
  cases b1 with
  | true =>
    go_wp2_with (fail)
    go_ret
    exact ⟨rfl, HBB.out⟩
  | false =>
  go_wp2_with (fail)
  refine (hasS_any (H1.out.upb HBB.out) HN.out.2).mono ?_
  rintro e w2 ⟨rfl, bb2⟩
  rw [HB2.out]
  have HBC := Lib.hid (HBB.out.up bb2)
  clear bb2
  cases b2 with
  | true =>
    go_wp2_with (fail)
    go_ret
    exact ⟨rfl, HBC.out⟩
  | false =>
    go_wp2_with (fail)
    go_ret
    exact ⟨rfl, HBC.out⟩

end Go.Proofs.Ytimpnpdhhhbmgaa

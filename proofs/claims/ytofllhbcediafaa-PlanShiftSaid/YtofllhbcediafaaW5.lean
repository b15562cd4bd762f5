/- Walk of Accepts. -/
import Derived.Test.YtofllhbcediafaaW4
namespace Go.Proofs.Ytofllhbcediafaa
open Go.RowKit
set_option linter.unusedVariables false

def accR (l : List (List Pl.Life)) (ds s : List Int) : Bool := decide (Pl.err l ds = 0) && Pl.inTime l ds s

set_option maxHeartbeats 1000000 in
theorem Accepts_any (v u x : Value) (l : List (List Pl.Life)) (ds s : List Int) (w : World) (hv : IsWords w v l) (hu : IsInts w u ds) (hx : IsInts w x s) (hl : l.length ≤ 9223372036854775807) (hl2 : ds.length ≤ 9223372036854775807) (hl3 : s.length ≤ 9223372036854775807) :
    Calls Try.prog 16 #[v, u, x] w fun e w' => e = .returned (.tuple #[.bool (accR l ds s), .int .i64 (Pl.err l ds)]) ∧ Below w.heap.size w w' := by
  have HV := Lib.hid hv
  have HU := Lib.hid hu
  have HX := Lib.hid hx
  obtain ⟨A, cap, vs, rfl, hlen, hr, hvs⟩ := hv
  obtain ⟨A2, cap2, rfl, hr2⟩ := hu
  obtain ⟨A3, cap3, rfl, hr3⟩ := hx
  clear hr hvs hlen hr2 hr3
  have hb0 : Below w.heap.size w (w.alloc (.cells #[.int .i64 0] 26)) := (Below.refl _ w).alloc (Nat.le_refl _) _
  by_cases he : Pl.err l ds = 0
  · have HE := Lib.hid he
    have HA := Lib.hid (show accR l ds s = Pl.inTime l ds s by simp [accR, he])
    clear he
    go_enter_defers Try.func16, Try.ntmps16
    go_wp2_with (fail)
    refine (check_any _ _ l ds _ (HV.out.below hb0) (HU.out.below hb0) hl hl2).mono ?_
    rintro e w1 ⟨rfl, hb1⟩
    rw [endE_0 HE.out]
    have hb01 := hb0.up hb1
    go_wp2_with (fail)
    refine (inTime_any _ _ _ l ds s _ (HV.out.below hb01) (HU.out.below hb01) (HX.out.below hb01) (right_of HE.out) hl3).mono ?_
    rintro e w2 ⟨rfl, hb2⟩
    have hbx : Boxed w2 w.heap.size 26 (.int .i64 0) := boxed_below (boxed_below (Boxed.new w 26 _) hb1) hb2
    have hc := hbx.cell
    have hf := hbx.frozen
    go_wp2_with (fail)
    refine leaves_cons (f := 23) (args := #[.pointer (some ⟨w.heap.size, 0, none⟩)]) (by simp) (by simp [go_sem]) ?_
    refine (caught_idle _ _).mono ?_
    rintro e u' w2 ⟨rfl, rfl, rfl⟩
    have hc2 := (hbx.set (.int .i64 0)).cell
    exact ⟨.tuple #[.bool (Pl.inTime l ds s), .int .i64 0], by simp [results, Try.results16, go_sem, hc2], by rw [HE.out, HA.out], (hb01.up hb2).setCell (Nat.le_refl _) _⟩
  · have HA := Lib.hid (show accR l ds s = false by simp [accR, he])
    go_enter_defers Try.func16, Try.ntmps16
    go_wp2_with (fail)
    refine (check_any _ _ l ds _ (HV.out.below hb0) (HU.out.below hb0) hl hl2).mono ?_
    rintro e w1 ⟨rfl, hb1⟩
    rw [show endE (Pl.err l ds) = .panicked (bad (Pl.err l ds)) by simp [endE, he]]
    have hbx : Boxed w1 w.heap.size 26 (.int .i64 0) := boxed_below (Boxed.new w 26 _) hb1
    have hc := hbx.cell
    have hf := hbx.frozen
    go_wp2_with (fail)
    refine leaves_cons (f := 23) (args := #[.pointer (some ⟨w.heap.size, 0, none⟩)]) (by simp) (by simp [go_sem]) ?_
    refine (caught_panics _ _ _ _ hc hf).mono ?_
    rintro e u' w2 ⟨rfl, rfl, rfl⟩
    have hc2 := (hbx.set (.int .i64 (Pl.err l ds))).cell
    exact ⟨.tuple #[.bool false, .int .i64 (Pl.err l ds)], by simp [results, Try.results16, go_sem, hc2], by rw [HA.out], (hb0.up hb1).setCell (Nat.le_refl _) _⟩

end Go.Proofs.Ytofllhbcediafaa

/- The statements PlanSpec and PlanCountSpec, walked. -/
import Derived.Test.YtofllhbcediafaaW20
namespace Go.Proofs.Ytofllhbcediafaa
open Go.RowKit
set_option linter.unusedVariables false
set_option linter.unusedSimpArgs false

theorem LaPost.get {l : List (List Pl.Life)} {ds : List Int} {w w' : World} {e : Ending} (h : LaPost l ds w e w') :
    ∃ A c A2 c2, e = .returned (.tuple #[.slice A (if okL l ds = true then Pl.shown ds else []).length c, .slice A2 (if okL l ds = true then Pl.whys ds else []).length c2, .bool (okL l ds), .int .i64 (Pl.err l ds)]) ∧
      Hid (IsInts w' (.slice A (if okL l ds = true then Pl.shown ds else []).length c) (if okL l ds = true then Pl.shown ds else [])) ∧ Hid (IsInts w' (.slice A2 (if okL l ds = true then Pl.whys ds else []).length c2) (if okL l ds = true then Pl.whys ds else [])) ∧ Hid (Below w.heap.size w w') := by
  obtain ⟨a, b, he, ha, hb, hB⟩ := h
  have ha' := ha
  have hb' := hb
  obtain ⟨A, c, rfl, _⟩ := ha'
  obtain ⟨A2, c2, rfl, _⟩ := hb'
  exact ⟨A, c, A2, c2, he, ha, hb, hB⟩

/-- what Latest shows, what it names -/
def laS (l : List (List Pl.Life)) (ds : List Int) : List Int := if okL l ds = true then Pl.shown ds else []
def laY (l : List (List Pl.Life)) (ds : List Int) : List Int := if okL l ds = true then Pl.whys ds else []
theorem laS_len (l : List (List Pl.Life)) (ds : List Int) : (laS l ds).length ≤ ds.length := by unfold laS; split <;> simp [Pl.shown_len]
theorem laY_len (l : List (List Pl.Life)) (ds : List Int) : (laY l ds).length ≤ ds.length := by unfold laY; split <;> simp [Pl.whys_len]
theorem LaPost.gets {l : List (List Pl.Life)} {ds : List Int} {w w' : World} {e : Ending} (h : LaPost l ds w e w') :
    ∃ A c A2 c2, e = .returned (.tuple #[.slice A (laS l ds).length c, .slice A2 (laY l ds).length c2, .bool (okL l ds), .int .i64 (Pl.err l ds)]) ∧
      Hid (IsInts w' (.slice A (laS l ds).length c) (laS l ds)) ∧ Hid (IsInts w' (.slice A2 (laY l ds).length c2) (laY l ds)) ∧ Hid (Below w.heap.size w w') := h.get

theorem few_len {l : List (List Pl.Life)} {ds s : List Int} (h : fewB l ds s = true) : l.length ≤ 1100 ∧ ds.length ≤ 1100 ∧ s.length ≤ 1100 := by
  simp only [fewB, Bool.and_eq_true, decide_eq_true_eq] at h
  exact ⟨h.1.1.1.2, h.1.1.2, h.1.2⟩

set_option maxHeartbeats 2000000 in
theorem PlanSpec_any (v u : Value) (l : List (List Pl.Life)) (ds : List Int) (w : World) (hv : IsWords w v l) (hu : IsInts w u ds) (hl : l.length ≤ 9223372036854775807) (hl2 : ds.length ≤ 9223372036854775807) :
    Calls Try.prog 3 #[v, u] w fun e w' => e = .returned (.bool true) ∧ Below w.heap.size w w' := by
  have HV := Lib.hid hv
  have HU := Lib.hid hu
  obtain ⟨A, cap, vs, rfl, hlen, hr, hvs⟩ := hv
  obtain ⟨A2, cap2, rfl, hr2⟩ := hu
  clear hr hvs hlen hr2
  have hl3 := laS_len l ds
  have hl4 := laY_len l ds
  go_enter Try.func3, Try.ntmps3
  go_wp2_with (fail)
  refine (sane_any _).mono ?_
  rintro e w1 ⟨rfl, hb1⟩
  have B1 := Lib.hid hb1
  clear hb1
  go_wp2_with (fail)
  refine (few_any _ _ _ l ds [] _ (HV.out.below B1.out) (HU.out.below B1.out) IsInts.nil hl hl2 (by simp)).mono ?_
  rintro e w1 ⟨rfl, rfl⟩
  cases hf : fewB l ds []
  · go_wp2_with (fail)
    go_ret
    exact ⟨rfl, B1.out⟩
  · clear hf
    go_wp2_with (fail)
    refine (Latest_any _ _ l ds _ (HV.out.below B1.out) (HU.out.below B1.out) hl hl2).mono ?_
    rintro e w2 hP
    obtain ⟨A3, c3, A4, c4, rfl, H3, H4, X2⟩ := hP.gets
    have B2 := Lib.hid (B1.out.up X2.out)
    clear hP X2
    go_wp2_with (fail)
    refine (refLatest_any _ _ l ds _ (HV.out.below B2.out) (HU.out.below B2.out) hl).mono ?_
    rintro e w3 hP
    obtain ⟨A5, c5, A6, c6, rfl, H5, H6, X3⟩ := hP.gets
    have B3 := Lib.hid (B2.out.up X3.out)
    replace H3 := Lib.hid (H3.out.below X3.out)
    replace H4 := Lib.hid (H4.out.below X3.out)
    clear hP X3
    go_wp2_with (fail)
    refine (Check_any _ _ l ds _ (HV.out.below B3.out) (HU.out.below B3.out) hl hl2).mono ?_
    rintro e w4 ⟨rfl, X4⟩
    have B4 := Lib.hid (B3.out.up X4)
    replace H3 := Lib.hid (H3.out.below X4)
    replace H4 := Lib.hid (H4.out.below X4)
    replace H5 := Lib.hid (H5.out.below X4)
    replace H6 := Lib.hid (H6.out.below X4)
    clear X4
    go_wp2_with (fail)
    refine (refCheck_any _ _ l ds _ (HV.out.below B4.out) (HU.out.below B4.out) hl).mono ?_
    rintro e w5 ⟨rfl, m, hm⟩
    have X5 : Hid (Below w4.heap.size w4 w5) := by rw [hm]; exact below_drewN (Below.refl _ _) m
    clear hm
    have B5 := Lib.hid (B4.out.up X5.out)
    replace H3 := Lib.hid (H3.out.below X5.out)
    replace H4 := Lib.hid (H4.out.below X5.out)
    replace H5 := Lib.hid (H5.out.below X5.out)
    replace H6 := Lib.hid (H6.out.below X5.out)
    clear X5
    go_wp2_with (fail)
    refine (sameInts_any _ _ (laS l ds) (laS l ds) _ H3.out H5.out (by omega) (by omega)).mono ?_
    rintro e w6 ⟨rfl, m, hm⟩
    have X6 : Hid (Below w5.heap.size w5 w6) := by rw [hm]; exact below_drewN (Below.refl _ _) m
    clear hm
    rw [show decide (laS l ds = laS l ds) = true by simp]
    have B6 := Lib.hid (B5.out.up X6.out)
    replace H4 := Lib.hid (H4.out.below X6.out)
    replace H6 := Lib.hid (H6.out.below X6.out)
    clear X6
    go_wp2_with (fail)
    refine (sameInts_any _ _ (laY l ds) (laY l ds) _ H4.out H6.out (by omega) (by omega)).mono ?_
    rintro e w7 ⟨rfl, m, hm⟩
    have X7 : Hid (Below w6.heap.size w6 w7) := by rw [hm]; exact below_drewN (Below.refl _ _) m
    clear hm
    rw [show decide (laY l ds = laY l ds) = true by simp]
    have B7 := Lib.hid (B6.out.up X7.out)
    clear X7
    go_wp2_with (fail)
    go_ret
    exact ⟨rfl, B7.out⟩

set_option maxHeartbeats 2000000 in
theorem PlanCountSpec_any (v u x : Value) (l : List (List Pl.Life)) (ds s : List Int) (w : World) (hv : IsWords w v l) (hu : IsInts w u ds) (hx : IsInts w x s) (hl : l.length ≤ 9223372036854775807) (hl2 : ds.length ≤ 9223372036854775807) (hl3 : s.length ≤ 9223372036854775807) :
    Calls Try.prog 4 #[v, u, x] w fun e w' => e = .returned (.bool true) ∧ Below w.heap.size w w' := by
  have HV := Lib.hid hv
  have HU := Lib.hid hu
  have HX := Lib.hid hx
  obtain ⟨A, cap, vs, rfl, hlen, hr, hvs⟩ := hv
  obtain ⟨A2, cap2, rfl, hr2⟩ := hu
  obtain ⟨A3, cap3, rfl, hr3⟩ := hx
  clear hr hvs hlen hr2 hr3
  go_enter Try.func4, Try.ntmps4
  go_wp2_with (fail)
  refine (sane_any _).mono ?_
  rintro e w1 ⟨rfl, hb1⟩
  have B1 := Lib.hid hb1
  clear hb1
  go_wp2_with (fail)
  refine (few_any _ _ _ l ds s _ (HV.out.below B1.out) (HU.out.below B1.out) (HX.out.below B1.out) hl hl2 hl3).mono ?_
  rintro e w1 ⟨rfl, rfl⟩
  cases hf : fewB l ds s
  · go_wp2_with (fail)
    go_ret
    exact ⟨rfl, B1.out⟩
  · clear hf
    go_wp2_with (fail)
    refine (Accepts_any _ _ _ l ds s _ (HV.out.below B1.out) (HU.out.below B1.out) (HX.out.below B1.out) hl hl2 hl3).mono ?_
    rintro e w2 ⟨rfl, X2⟩
    have B2 := Lib.hid (B1.out.up X2)
    clear X2
    go_wp2_with (fail)
    refine (refAccepts_any _ _ _ l ds s _ (HV.out.below B2.out) (HU.out.below B2.out) (HX.out.below B2.out) hl hl3).mono ?_
    rintro e w3 ⟨rfl, m, hm⟩
    have B3 : Hid (Below w.heap.size w w3) := by rw [hm]; exact below_drewN B2.out m
    clear hm
    go_wp2_with (fail)
    refine (Withdrawn_any _ _ _ l ds s _ (HV.out.below B3.out) (HU.out.below B3.out) (HX.out.below B3.out) hl hl2 hl3).mono ?_
    rintro e w4 ⟨rfl, X4⟩
    have B4 := Lib.hid (B3.out.up X4)
    clear X4
    go_wp2_with (fail)
    refine (refWithdrawn_any _ _ _ l ds s _ (HV.out.below B4.out) (HU.out.below B4.out) (HX.out.below B4.out) hl hl3).mono ?_
    rintro e w5 ⟨rfl, m, hm⟩
    have B5 : Hid (Below w.heap.size w w5) := by rw [hm]; exact below_drewN B4.out m
    clear hm
    go_wp2_with (fail)
    go_ret
    exact ⟨rfl, B5.out⟩

end Go.Proofs.Ytofllhbcediafaa

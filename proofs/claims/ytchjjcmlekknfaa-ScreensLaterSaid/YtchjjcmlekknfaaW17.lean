/- Calls of the package and of the reference in the form that the statements use; right, is, the statements' examples. -/
import Derived.Test.YtchjjcmlekknfaaW16
import Derived.Test.YtchjjcmlekknfaaSame
namespace Go.Proofs.Ytchjjcmlekknfaa
open Go.RowKit
set_option linter.unusedVariables false
set_option linter.unusedSimpArgs false

theorem IsInts.upb {w w' : World} {v : Value} {xs : List Int} (h : IsInts w v xs) (hb : Below w.heap.size w w') : IsInts w' v xs := h.below hb
def BIG : Nat := 9223372036854775807
def GP (L : List Int) (D e0 : Int) (w : World) (e : Ending) (w' : World) : Prop := ∃ A c, e = .returned (.tuple #[.slice A L.length c, .int .i64 D, .int .i64 e0]) ∧ IsInts w' (.slice A L.length c) L ∧ Below w.heap.size w w'
def PP (L : List Int) (e0 : Int) (w : World) (e : Ending) (w' : World) : Prop := ∃ A c, e = .returned (.tuple #[.slice A L.length c, .int .i64 e0]) ∧ IsInts w' (.slice A L.length c) L ∧ Below w.heap.size w w'
section
variable {v u z y : Value} {r d es h L : List Int} {m f e0 D : Int} {b : Bool} {w : World}
theorem grp_call (hv : IsInts w v r) (hu : IsInts w u d) (hl : r.length ≤ 9223372036854775807) (hl2 : d.length ≤ 9223372036854775807) (h1 : Sc.errQ r d m f = e0) (h2 : gL r d m f = L) (h3 : gD r d m f = D) : Calls Try.prog 11 #[v, u, .int .i64 m, .int .i64 f] w (GP L D e0 w) := by
  subst h1 h2 h3
  obtain ⟨A, c, rfl, _⟩ := id hv
  obtain ⟨A2, c2, rfl, _⟩ := id hu
  exact group_any A A2 c c2 r d m f w hv hu hl hl2
theorem rgrp_call (hv : IsInts w v r) (hu : IsInts w u d) (hl : r.length ≤ 9223372036854775807) (hl2 : d.length ≤ 9223372036854775807) (h1 : Sc.errQ r d m f = e0) (h2 : gL r d m f = L) (h3 : gD r d m f = D) : Calls Try.prog 12 #[v, u, .int .i64 m, .int .i64 f] w (GP L D e0 w) := by
  subst h1 h2 h3
  exact refGroup_any v u r d m f w hv hu hl hl2
theorem prv_call (hv : IsInts w v r) (hu : IsInts w u d) (hl : r.length ≤ 9223372036854775807) (hl2 : d.length ≤ 9223372036854775807) (h1 : Sc.errQ r d m f = e0) (h2 : pL r d m f = L) : Calls Try.prog 14 #[v, u, .int .i64 m, .int .i64 f] w (PP L e0 w) := by
  subst h1 h2
  obtain ⟨A, c, rfl, _⟩ := id hv
  obtain ⟨A2, c2, rfl, _⟩ := id hu
  exact prove_any A A2 c c2 r d m f w hv hu hl hl2
theorem rprv_call (hv : IsInts w v r) (hu : IsInts w u d) (hl : r.length ≤ 9223372036854775807) (hl2 : d.length ≤ 9223372036854775807) (hc1 : ∀ A n c, v = .slice A n c → n ≤ c) (hc2 : ∀ A n c, u = .slice A n c → n ≤ c) (h1 : Sc.errQ r d m f = e0) (h2 : pL r d m f = L) : Calls Try.prog 15 #[v, u, .int .i64 m, .int .i64 f] w (PP L e0 w) := by
  subst h1 h2
  exact refProve_any v u r d m f w hv hu hl hl2 hc1 hc2
theorem acc_call (hv : IsInts w v r) (hu : IsInts w u d) (hz : IsInts w z es) (hy : IsInts w y h) (hl : r.length ≤ 9223372036854775807) (hl2 : d.length ≤ 9223372036854775807) (hl3 : es.length ≤ 9223372036854775807) (hl4 : h.length ≤ 9223372036854775807) (h1 : Sc.errQ r d m f = e0) (h2 : aB r d m f es h = b) :
    Calls Try.prog 16 #[v, u, .int .i64 m, .int .i64 f, z, y] w fun e w' => e = .returned (.tuple #[.bool b, .int .i64 e0]) ∧ Below w.heap.size w w' := by
  subst h1 h2
  obtain ⟨A, c, rfl, _⟩ := id hv
  obtain ⟨A2, c2, rfl, _⟩ := id hu
  obtain ⟨A3, c3, rfl, _⟩ := id hz
  obtain ⟨A4, c4, rfl, _⟩ := id hy
  exact accepts_any A A2 A3 A4 c c2 c3 c4 r d m f es h w hv hu hz hy hl hl2 hl3 hl4
theorem racc_call (hv : IsInts w v r) (hu : IsInts w u d) (hz : IsInts w z es) (hy : IsInts w y h) (hl : r.length ≤ 9223372036854775807) (hl2 : d.length ≤ 9223372036854775807) (hl3 : es.length ≤ 9223372036854775807) (hl4 : h.length ≤ 9223372036854775807) (h1 : Sc.errQ r d m f = e0) (h2 : aB r d m f es h = b) :
    Calls Try.prog 17 #[v, u, .int .i64 m, .int .i64 f, z, y] w fun e w' => e = .returned (.tuple #[.bool b, .int .i64 e0]) ∧ Below w.heap.size w w' := by
  subst h1 h2
  exact refAccepts_any v u z y r d m f es h w hv hu hz hy hl hl2 hl3 hl4
theorem same_call {xs ys : List Int} (hv : IsInts w v xs) (hu : IsInts w u ys) (hl : xs.length ≤ 9223372036854775807) (hl2 : ys.length ≤ 9223372036854775807) (h1 : decide (xs = ys) = b) : Calls Try.prog 13 #[v, u] w fun e w' => e = .returned (.bool b) ∧ Below w.heap.size w w' := by
  subst h1
  refine (sameInts_any v u xs ys w hv hu hl hl2).mono ?_
  rintro e w' ⟨rfl, k, rfl⟩
  exact ⟨rfl, below_drewN (Below.refl _ _) k⟩
end
/-- a right question of at most 40 lines -/
def rightB (r d : List Int) (m f : Int) : Bool := decide (r.length ≤ 40) && (Sc.errQ r d m f == 0)
theorem right_any {v u : Value} {r d : List Int} {m f : Int} {w : World} (hv : IsInts w v r) (hu : IsInts w u d) (hl : r.length ≤ 9223372036854775807) (hl2 : d.length ≤ 9223372036854775807) :
    Calls Try.prog 18 #[v, u, .int .i64 m, .int .i64 f] w fun e w' => e = .returned (.bool (rightB r d m f)) ∧ Below w.heap.size w w' := by
  have HV := Lib.hid hv
  have HU := Lib.hid hu
  obtain ⟨A, c, rfl, _⟩ := id hv
  obtain ⟨A2, c2, rfl, _⟩ := id hu
  have HL := Lib.hid (And.intro hl hl2)
  clear hv hu
  by_cases h40 : r.length ≤ 40
  · have hd : decide ((r.length : Int) ≤ 40) = true := by rw [decide_eq_true_eq]; omega
    obtain ⟨e0, he0⟩ : ∃ e, Sc.errQ r d m f = e := ⟨_, rfl⟩
    have HE := Lib.hid he0
    have HB := Lib.hid (show rightB r d m f = (e0 == 0) by unfold rightB; rw [he0, decide_eq_true h40, Bool.true_and])
    clear he0
    go_enter Try.func18, Try.ntmps18
    go_wp2_with (fail)
    refine (refError_is HE.out HV.out HU.out HL.out.1 HL.out.2).mono ?_
    rintro e _ ⟨rfl, n, rfl⟩
    go_wp2_with (fail)
    go_ret
    exact ⟨ret_bool HB.out.symm, below_drewN (Below.refl _ _) n⟩
  · have hd : decide ((r.length : Int) ≤ 40) = false := by rw [decide_eq_false_iff_not]; omega
    have HB := Lib.hid (show rightB r d m f = false by unfold rightB; rw [decide_eq_false h40]; rfl)
    go_enter Try.func18, Try.ntmps18
    go_wp2_with (fail)
    go_ret
    exact ⟨ret_bool HB.out.symm, Below.refl _ _⟩
theorem right_is {v u : Value} {r d : List Int} {m f : Int} {b : Bool} {w : World} (hv : IsInts w v r) (hu : IsInts w u d) (hl : r.length ≤ 9223372036854775807) (hl2 : d.length ≤ 9223372036854775807) (hb : rightB r d m f = b) :
    Calls Try.prog 18 #[v, u, .int .i64 m, .int .i64 f] w fun e w' => e = .returned (.bool b) ∧ Below w.heap.size w w' := by subst hb; exact right_any hv hu hl hl2

set_option maxHeartbeats 2000000 in
theorem is_any {v u z y : Value} {r d es h : List Int} {m f dn : Int} {w : World} (hv : IsInts w v r) (hu : IsInts w u d) (hz : IsInts w z es) (hy : IsInts w y h) (hl : r.length ≤ 1000) (hl2 : d.length ≤ 1000) (hl3 : es.length ≤ 1000) (hl4 : h.length ≤ 1000)
    (h1 : Sc.errQ r d m f = 0) (h2 : gL r d m f = es) (h3 : gD r d m f = dn) (h4 : pL r d m f = h) (h5 : aB r d m f es h = true) :
    Calls Try.prog 24 #[v, u, .int .i64 m, .int .i64 f, z, .int .i64 dn, y] w fun e w' => e = .returned (.bool true) ∧ Below w.heap.size w w' := by
  have HV := Lib.hid hv
  have HU := Lib.hid hu
  have HZ := Lib.hid hz
  have HY := Lib.hid hy
  have HH := Lib.hid (And.intro h1 (And.intro h2 (And.intro h3 (And.intro h4 h5))))
  obtain ⟨A, c, rfl, _⟩ := id hv
  obtain ⟨A2, c2, rfl, _⟩ := id hu
  obtain ⟨A3, c3, rfl, _⟩ := id hz
  obtain ⟨A4, c4, rfl, _⟩ := id hy
  clear hv hu hz hy h1 h2 h3 h4 h5
  go_enter Try.func24, Try.ntmps24
  go_wp2_with (fail)
  refine (grp_call HV.out HU.out (by omega) (by omega) HH.out.1 HH.out.2.1 HH.out.2.2.1).mono ?_
  rintro e w1 ⟨B1, k1, rfl, i1, b1⟩
  have HB1 := Lib.hid b1
  have HI1 := Lib.hid i1
  clear i1 b1
  go_wp2_with (fail)
  refine (prv_call (HV.out.upb HB1.out) (HU.out.upb HB1.out) (by omega) (by omega) HH.out.1 HH.out.2.2.2.1).mono ?_
  rintro e w2 ⟨B2, k2, rfl, i2, b2⟩
  have HB2 := Lib.hid (HB1.out.up b2)
  have HI2 := Lib.hid (HI1.out.upb b2)
  have HJ2 := Lib.hid i2
  clear i2 b2 HI1 HB1
  go_wp2_with (fail)
  refine (acc_call (HV.out.upb HB2.out) (HU.out.upb HB2.out) (HZ.out.upb HB2.out) (HY.out.upb HB2.out) (by omega) (by omega) (by omega) (by omega) HH.out.1 HH.out.2.2.2.2).mono ?_
  rintro e w3 ⟨rfl, b3⟩
  have HB3 := Lib.hid (HB2.out.up b3)
  have HI3 := Lib.hid (HI2.out.upb b3)
  have HJ3 := Lib.hid (HJ2.out.upb b3)
  clear b3 HI2 HJ2 HB2
  go_wp2_with (fail)
  refine (same_call (b := true) HI3.out (HZ.out.upb HB3.out) (by omega) (by omega) (by simp)).mono ?_
  rintro e w4 ⟨rfl, b4⟩
  have HB4 := Lib.hid (HB3.out.up b4)
  have HJ4 := Lib.hid (HJ3.out.upb b4)
  clear b4 HI3 HJ3 HB3
  go_wp2_with (fail)
  refine (same_call (b := true) HJ4.out (HY.out.upb HB4.out) (by omega) (by omega) (by simp)).mono ?_
  rintro e w5 ⟨rfl, b5⟩
  have HB5 := Lib.hid (HB4.out.up b5)
  clear b5
  go_wp2_with (fail)
  go_ret
  exact ⟨rfl, HB5.out⟩
end Go.Proofs.Ytchjjcmlekknfaa

/- Walks of Check, inTime and Accepts. -/
import Derived.Test.YtofllhbcediafaaW2
import Derived.Test.YtofllhbcediafaaPlain2
namespace Go.Proofs.Ytofllhbcediafaa
open Go.RowKit
set_option linter.unusedVariables false

set_option maxHeartbeats 1000000 in
theorem Check_any (v u : Value) (l : List (List Pl.Life)) (ds : List Int) (w : World) (hv : IsWords w v l) (hu : IsInts w u ds) (hl : l.length ≤ 9223372036854775807) (hl2 : ds.length ≤ 9223372036854775807) :
    Calls Try.prog 13 #[v, u] w fun e w' => e = .returned (.int .i64 (Pl.err l ds)) ∧ Below w.heap.size w w' := by
  have HV := Lib.hid hv
  have HU := Lib.hid hu
  obtain ⟨A, cap, vs, rfl, hlen, hr, hvs⟩ := hv
  obtain ⟨A2, cap2, rfl, hr2⟩ := hu
  clear hr hvs hlen hr2
  have hb0 : Below w.heap.size w (w.alloc (.cells #[.int .i64 0] 26)) := (Below.refl _ w).alloc (Nat.le_refl _) _
  by_cases he : Pl.err l ds = 0
  · have HE := Lib.hid he
    clear he
    go_enter_defers Try.func13, Try.ntmps13
    go_wp2_with (fail)
    refine (check_any _ _ l ds _ (HV.out.below hb0) (HU.out.below hb0) hl hl2).mono ?_
    rintro e w1 ⟨rfl, hb1⟩
    rw [endE_0 HE.out]
    have hbx : Boxed w1 w.heap.size 26 (.int .i64 0) := boxed_below (Boxed.new w 26 _) hb1
    have hc := hbx.cell
    have hf := hbx.frozen
    go_wp2_with (fail)
    refine leaves_cons (f := 23) (args := #[.pointer (some ⟨w.heap.size, 0, none⟩)]) (by simp) (by simp [go_sem]) ?_
    refine (caught_idle _ _).mono ?_
    rintro e u' w2 ⟨rfl, rfl, rfl⟩
    have hc2 := (hbx.set (.int .i64 0)).cell
    refine ⟨.int .i64 0, by simp [results, Try.results13, go_sem, hc2], by rw [HE.out], (hb0.up hb1).setCell (Nat.le_refl _) _⟩
  · go_enter_defers Try.func13, Try.ntmps13
    go_wp2_with (fail)
    refine (check_any _ _ l ds _ (HV.out.below hb0) (HU.out.below hb0) hl hl2).mono ?_
    rintro e w1 ⟨rfl, hb1⟩
    rw [show endE (Pl.err l ds) = .panicked (bad (Pl.err l ds)) by simp [endE, he]]
    have hbx : Boxed w1 w.heap.size 26 (.int .i64 0) := boxed_below (Boxed.new w 26 _) hb1
    have hc := hbx.cell
    have hf := hbx.frozen
    go_wp2_with (fail)
    refine leaves_cons (f := 23) (args := #[.pointer (some ⟨w.heap.size, 0, none⟩)]) (by simp) (by simp [go_sem]) ?_
    refine (caught_panics _ _ _ _ hc hf).mono ?_
    rintro e u' w2 ⟨rfl, rfl, rfl⟩
    have hc2 := (hbx.set (.int .i64 (Pl.err l ds))).cell
    refine ⟨.int .i64 (Pl.err l ds), by simp [results, Try.results13, go_sem, hc2], rfl, (hb0.up hb1).setCell (Nat.le_refl _) _⟩

set_option maxHeartbeats 1000000 in
theorem late_any (k bs bl bw bd : Nat) (vs vw vd : Value) (l : List (List Pl.Life)) (ds s : List Int) (last : Int) (w : World)
    (hs : w.cell? ⟨bs, 0, none⟩ = some vs) (hla : Boxed w bl 3 (.int .i64 last)) (hw : w.cell? ⟨bw, 0, none⟩ = some vw) (hd : w.cell? ⟨bd, 0, none⟩ = some vd)
    (hvs : IsInts w vs s) (hvw : IsWords w vw l) (hvd : IsInts w vd ds) (k1 : k < s.length) (k2 : k < l.length) (k3 : k < ds.length) (hne : 0 < l[k].length) :
    Calls Try.prog 35 #[.int .i64 k, .pointer (some ⟨bs, 0, none⟩), .pointer (some ⟨bl, 0, none⟩), .pointer (some ⟨bw, 0, none⟩), .pointer (some ⟨bd, 0, none⟩)] w fun e w' =>
      e = .returned (.bool (!Pl.tOk last (Pl.born l[k]) ds[k] s[k])) ∧ ∃ n, w' = (w.setCell ⟨bl, 0, none⟩ (.int .i64 s[k])).drewN n := by
  obtain ⟨A, cap, rfl, hr⟩ := hvs
  obtain ⟨A2, cap2, us, rfl, hlen, hr2, hus⟩ := hvw
  obtain ⟨A3, cap3, rfl, hr3⟩ := hvd
  obtain ⟨b, off, rfl, _, hc⟩ := ints_at hr k1
  obtain ⟨b2, off2, A5, c5, rfl, _, hc2, hr5⟩ := words_at hlen hr2 hus k2
  obtain ⟨b3, off3, rfl, _, hc3⟩ := ints_at hr3 k3
  obtain ⟨b5, off5, rfl, _, hc5, _⟩ := lives_at hr5 hne
  simp only [Nat.zero_mul, Nat.add_zero] at hc5
  rw [← Pl.born_eq _ hne] at hc5
  have hcl := hla.cell
  have hfl := hla.frozen
  have hlen5 : l[k].length ≤ 9223372036854775807 ∨ True := .inr trivial
  generalize Pl.born l[k] = bo at hc5 ⊢
  generalize ds[k] = d at hc3 ⊢
  generalize s[k] = t at hc ⊢
  clear hr hr2 hus hlen hr3 hr5 hlen5
  by_cases hm : last < bo
  · have hmx : (if last < bo then bo else last) = bo := if_pos hm
    have HT := Lib.hid (show Pl.tOk last bo d t = (decide (bo ≤ t) && decide (t ≤ d)) by simp only [Pl.tOk, show max last bo = bo by omega])
    by_cases h1 : bo ≤ t
    · have h1b : decide (bo ≤ t) = true := by simpa using h1
      by_cases h2 : t ≤ d
      · have h2b : decide (t ≤ d) = true := by simpa using h2
        go_enter Try.func35, Try.ntmps35
        go_wp2
        go_quiet (fail)
        go_wp2
        go_ret
        exact ⟨by rw [HT.out, h1b, h2b]; rfl, _, rfl⟩
      · have h2b : decide (t ≤ d) = false := by simpa using h2
        go_enter Try.func35, Try.ntmps35
        go_wp2
        go_quiet (fail)
        go_wp2
        go_ret
        exact ⟨by rw [HT.out, h1b, h2b]; rfl, _, rfl⟩
    · have h1b : decide (bo ≤ t) = false := by simpa using h1
      go_enter Try.func35, Try.ntmps35
      go_wp2
      go_quiet (fail)
      go_wp2
      go_ret
      exact ⟨by rw [HT.out, h1b]; rfl, _, rfl⟩
  · have hmx : (if last < bo then bo else last) = last := if_neg hm
    have HT := Lib.hid (show Pl.tOk last bo d t = (decide (last ≤ t) && decide (t ≤ d)) by simp only [Pl.tOk, show max last bo = last by omega])
    by_cases h1 : last ≤ t
    · have h1b : decide (last ≤ t) = true := by simpa using h1
      by_cases h2 : t ≤ d
      · have h2b : decide (t ≤ d) = true := by simpa using h2
        go_enter Try.func35, Try.ntmps35
        go_wp2
        go_quiet (fail)
        go_wp2
        go_ret
        exact ⟨by rw [HT.out, h1b, h2b]; rfl, _, rfl⟩
      · have h2b : decide (t ≤ d) = false := by simpa using h2
        go_enter Try.func35, Try.ntmps35
        go_wp2
        go_quiet (fail)
        go_wp2
        go_ret
        exact ⟨by rw [HT.out, h1b, h2b]; rfl, _, rfl⟩
    · have h1b : decide (last ≤ t) = false := by simpa using h1
      go_enter Try.func35, Try.ntmps35
      go_wp2
      go_quiet (fail)
      go_wp2
      go_ret
      exact ⟨by rw [HT.out, h1b]; rfl, _, rfl⟩

end Go.Proofs.Ytofllhbcediafaa

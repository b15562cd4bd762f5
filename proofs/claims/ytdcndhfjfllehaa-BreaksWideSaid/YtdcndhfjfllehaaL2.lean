/- The statement BreaksLeast, walked. -/
import Derived.Test.YtdcndhfjfllehaaL1
namespace Go.Proofs.Ytdcndhfjfllehaa
open Go.RowKit
set_option linter.unusedVariables false
set_option linter.unusedSimpArgs false

theorem no_ends {xs : List Int} {sp rm : Int} (h : okB xs sp rm = false) : esL xs sp rm = [] ∧ coL xs sp rm = 0 ∧ hsL xs sp rm = [] := by
  unfold esL coL hsL; rw [h]; exact ⟨rfl, rfl, rfl⟩
theorem yes_ends {xs : List Int} {sp rm : Int} (h : okB xs sp rm = true) : esL xs sp rm = endsI sp rm 0 xs ∧ coL xs sp rm = Bk.at_ (Bk.tab sp rm xs) 0 ∧ hsL xs sp rm = Bk.tab sp rm xs := by
  unfold esL coL hsL; rw [h]; exact ⟨rfl, rfl, rfl⟩
theorem refError_is (v : Value) (xs : List Int) (sp rm : Int) (w : World) (hv : IsInts w v xs) (hl : xs.length ≤ 9223372036854775807) {x : Int} (h : Bk.err xs sp rm = x) :
    Calls Try.prog 17 #[v, .int .i64 sp, .int .i64 rm] w fun e w' => e = .returned (.int .i64 x) ∧ w = w' := by
  subst h; exact refError_any v xs sp rm w hv hl
theorem refWide_is (v : Value) (xs : List Int) (rm : Int) (w : World) (hv : IsInts w v xs) (hl : xs.length ≤ 9223372036854775807) {b : Bool} (h : Bk.wide xs rm = b) :
    Calls Try.prog 18 #[v, .int .i64 rm] w fun e w' => e = .returned (.bool b) ∧ w = w' := by
  subst h; exact refWide_any v xs rm w hv hl
theorem cost_some (v u : Value) (xs es : List Int) (sp rm : Int) (w : World) (hv : IsInts w v xs) (hu : IsInts w u es) (hr : Bk.Rt xs sp rm) (hl : es.length ≤ 9223372036854775807) {c : Int} (h : Bk.cst sp rm 0 xs es = some c) :
    Calls Try.prog 19 #[v, .int .i64 sp, .int .i64 rm, u] w fun e w' => e = .returned (.tuple #[.int .i64 c, .bool true]) ∧ w = w' := by
  refine (cost_any v u xs es sp rm w hv hu hr hl).mono ?_
  rintro e w' ⟨s, b, rfl, hp, hw⟩
  rw [h] at hp
  obtain ⟨rfl, rfl⟩ := hp
  exact ⟨rfl, hw⟩
theorem cost_no (v u : Value) (xs es : List Int) (sp rm : Int) (w : World) (hv : IsInts w v xs) (hu : IsInts w u es) (hr : Bk.Rt xs sp rm) (hl : es.length ≤ 9223372036854775807) (h : Bk.cst sp rm 0 xs es = none) :
    Calls Try.prog 19 #[v, .int .i64 sp, .int .i64 rm, u] w fun e w' => ∃ s : Int, e = .returned (.tuple #[.int .i64 s, .bool false]) ∧ w = w' := by
  refine (cost_any v u xs es sp rm w hv hu hr hl).mono ?_
  rintro e w' ⟨s, b, rfl, hp, hw⟩
  rw [h] at hp
  have hp' : b = false := hp
  subst hp'
  exact ⟨s, rfl, hw⟩
theorem ints_zero {w : World} {v : Value} {xs : List Int} (h : IsInts w v xs) (hlt : 0 < xs.length) : ∃ b off c, v = .slice (some ⟨b, off, none⟩) xs.length c ∧ w.cell? ⟨b, off, none⟩ = some (.int .i64 (Bk.at_ xs 0)) := by
  obtain ⟨A, c, rfl, hr⟩ := h
  obtain ⟨b, off, rfl, _, hc⟩ := ints_at hr hlt
  rw [Nat.add_zero] at hc
  exact ⟨b, off, c, rfl, by rw [hc, Bk.at_eq xs 0 hlt]⟩
theorem accepts_n (xs es h : List Int) (A Ae Ah : Option Addr) (cap ce ch : Nat) (sp rm : Int) (w : World) {ne nh : Nat} (he : es.length = ne) (hh : h.length = nh) (hv : IsInts w (.slice A xs.length cap) xs) (hu : IsInts w (.slice Ae ne ce) es) (ht : IsInts w (.slice Ah nh ch) h) (hl : xs.length ≤ 9223372036854775807) (hl2 : ne ≤ 9223372036854775807) (hl3 : nh ≤ 9223372036854775807) :
    Calls Try.prog 15 #[.slice A xs.length cap, .int .i64 sp, .int .i64 rm, .slice Ae ne ce, .slice Ah nh ch] w (AcPost xs sp rm es h w) := by
  subst he hh
  exact accepts_any xs es h A Ae Ah cap ce ch sp rm w hv hu ht hl hl2 hl3

set_option maxHeartbeats 4000000 in
set_option maxRecDepth 100000 in
theorem BreaksLeast_any (v u : Value) (xs es : List Int) (sp rm : Int) (w : World) (hv : IsInts w v xs) (lhv : xs.length ≤ 9223372036854775807) (hu : IsInts w u es) (lhu : es.length ≤ 9223372036854775807) :
    Calls Try.prog 5 #[v, .int .i64 sp, .int .i64 rm, u] w fun e w' => e = .returned (.bool true) ∧ Below w.heap.size w w' := by
  have Hhv := Lib.hid hv
  obtain ⟨A, c, rfl, _⟩ := id hv
  clear hv
  have Hhu := Lib.hid hu
  obtain ⟨A2, c2, rfl, _⟩ := id hu
  clear hu
  have B := Lib.hid (Below.refl w.heap.size w)
  go_enter Try.func5, Try.ntmps5
  go_wp2_with (fail)
  refine (sane_any _).mono ?_
  rintro e w1 ⟨rfl, b1⟩
  have Dw1 := Lib.hid (b1)
  replace Hhv := Lib.hid (Hhv.out.upb Dw1.out)
  replace Hhu := Lib.hid (Hhu.out.upb Dw1.out)
  replace B := Lib.hid (B.out.upb Dw1.out)
  clear Dw1 b1
  go_wp2_with (fail)
  by_cases he : Bk.err xs sp rm = 0
  · cases hw : Bk.wide xs rm
    · have hok := okB_yes he hw
      obtain ⟨f1, f2, f3⟩ := yes_ends hok
      have HR := Lib.hid (Bk.err_rt he)
      have HOK := Lib.hid (okB_parts hok).2.2.1
      have hn := HR.out.len
      refine (break_any xs _ _ sp rm _ Hhv.out lhv).mono ?_
      rintro e w2 hP
      obtain ⟨A2, c2, rfl, H2, X2⟩ := br_get (ok := true) (x := 0) (s := (endsI sp rm 0 xs)) (y := (Bk.at_ (Bk.tab sp rm xs) 0)) (n := (endsI sp rm 0 xs).length) hP hok he f1 f2 rfl
      have Dw2 := Lib.hid (X2.out)
      replace Hhv := Lib.hid (Hhv.out.upb Dw2.out)
      replace Hhu := Lib.hid (Hhu.out.upb Dw2.out)
      replace B := Lib.hid (B.out.upb Dw2.out)
      clear Dw2 hP X2
      go_wp2_with (fail)
      refine (prove_any xs _ _ sp rm _ Hhv.out lhv).mono ?_
      rintro e w3 hP
      obtain ⟨A3, c3, rfl, H3, X3⟩ := pr_get (ok := true) (x := 0) (s := (Bk.tab sp rm xs)) (n := (xs.length + 1)) hP hok he f3 (Bk.tab_len sp rm xs)
      have Dw3 := Lib.hid (X3.out)
      replace Hhv := Lib.hid (Hhv.out.upb Dw3.out)
      replace Hhu := Lib.hid (Hhu.out.upb Dw3.out)
      replace B := Lib.hid (B.out.upb Dw3.out)
      replace H2 := Lib.hid (H2.out.upb Dw3.out)
      clear Dw3 hP X3
      go_wp2_with (fail)
      have hel : (endsI sp rm 0 xs).length ≤ 64 := by rw [← f1]; exact esL_64 xs sp rm
      clear f1 f2 f3
      refine (refError_is _ xs sp rm _ Hhv.out lhv he).mono ?_
      rintro e _ ⟨rfl, rfl⟩
      go_wp2_with (fail)
      refine (refWide_is _ xs rm _ Hhv.out lhv hw).mono ?_
      rintro e _ ⟨rfl, rfl⟩
      go_wp2_with (fail)
      have HF := Lib.hid (cst_ends xs.length xs 0 (Nat.le_refl _) HOK.out)
      have HAC := Lib.hid (show accL xs sp rm (endsI sp rm 0 xs) (Bk.tab sp rm xs) from ⟨he, _, HF.out, Bk.prv_tab HR.out HOK.out, rfl⟩)
      have HLX := Lib.hid (fun h => ends_first (es := es) (at0 := 0) HOK.out h)
      have HLE := Lib.hid (fun c h => Bk.tab_least (es := es) (c := c) HR.out HOK.out h)
      obtain ⟨z, hz⟩ : ∃ z, Bk.at_ (Bk.tab sp rm xs) 0 = z := ⟨_, rfl⟩
      rw [hz] at HF HLX HLE ⊢
      have HZ := Lib.hid hz
      clear hz
      cases hcs : Bk.cst sp rm 0 xs es
      · have HCS := Lib.hid hcs
        clear hcs
        refine (cost_no _ _ xs es sp rm _ Hhv.out Hhu.out HR.out lhu HCS.out).mono ?_
        rintro e _ ⟨s, rfl, rfl⟩
        go_wp2_with (fail)
        refine (cost_some _ _ xs (endsI sp rm 0 xs) sp rm _ Hhv.out H2.out HR.out (by omega) HF.out).mono ?_
        rintro e _ ⟨rfl, rfl⟩
        go_wp2_with (fail)
        refine (accepts_n xs (endsI sp rm 0 xs) (Bk.tab sp rm xs) _ _ _ _ _ _ sp rm _ rfl (Bk.tab_len sp rm xs) Hhv.out H2.out H3.out lhv (by omega) (by omega)).mono ?_
        rintro e w4 hP
        obtain ⟨rfl, X4⟩ := ac_yes (x := 0) hP he HAC.out
        have Dw4 := Lib.hid (X4.out)
        replace Hhv := Lib.hid (Hhv.out.upb Dw4.out)
        replace Hhu := Lib.hid (Hhu.out.upb Dw4.out)
        replace B := Lib.hid (B.out.upb Dw4.out)
        replace H2 := Lib.hid (H2.out.upb Dw4.out)
        replace H3 := Lib.hid (H3.out.upb Dw4.out)
        clear Dw4 hP X4
        obtain ⟨bz, oz, cz, ez, hcz⟩ := ints_zero H3.out (by rw [Bk.tab_len]; omega)
        rw [HZ.out] at hcz
        injection ez with ez1 ez2 ez3
        subst ez1 ez3
        clear ez2
        go_wp2_with (fail)
        go_ret
        exact ⟨rfl, B.out⟩
      · have HCS := Lib.hid hcs
        clear hcs
        rename_i c0
        have hle := HLE.out c0 HCS.out
        have HL0 := Lib.hid (fun h : c0 = z => HLX.out (by rw [HCS.out, h]))
        refine (cost_some _ _ xs es sp rm _ Hhv.out Hhu.out HR.out lhu HCS.out).mono ?_
        rintro e _ ⟨rfl, rfl⟩
        go_wp2_with (fail)
        refine (cost_some _ _ xs (endsI sp rm 0 xs) sp rm _ Hhv.out H2.out HR.out (by omega) HF.out).mono ?_
        rintro e _ ⟨rfl, rfl⟩
        go_wp2_with (fail)
        refine (accepts_n xs (endsI sp rm 0 xs) (Bk.tab sp rm xs) _ _ _ _ _ _ sp rm _ rfl (Bk.tab_len sp rm xs) Hhv.out H2.out H3.out lhv (by omega) (by omega)).mono ?_
        rintro e w4 hP
        obtain ⟨rfl, X4⟩ := ac_yes (x := 0) hP he HAC.out
        have Dw4 := Lib.hid (X4.out)
        replace Hhv := Lib.hid (Hhv.out.upb Dw4.out)
        replace Hhu := Lib.hid (Hhu.out.upb Dw4.out)
        replace B := Lib.hid (B.out.upb Dw4.out)
        replace H2 := Lib.hid (H2.out.upb Dw4.out)
        replace H3 := Lib.hid (H3.out.upb Dw4.out)
        clear Dw4 hP X4
        obtain ⟨bz, oz, cz, ez, hcz⟩ := ints_zero H3.out (by rw [Bk.tab_len]; omega)
        rw [HZ.out] at hcz
        injection ez with ez1 ez2 ez3
        subst ez1 ez3
        clear ez2
        by_cases hgt : z < c0
        · have hd : decide (z < c0) = true := by rw [decide_eq_true_eq]; exact hgt
          go_wp2_with (fail)
          go_ret
          exact ⟨rfl, B.out⟩
        · obtain rfl : c0 = z := by omega
          have HLT := Lib.hid (HL0.out rfl)
          go_wp2_with (fail)
          refine (less_any _ _ es (endsI sp rm 0 xs) _ Hhu.out H2.out lhu (by omega)).mono ?_
          rintro e w5 ⟨rfl, m5, h5⟩
          rw [HLT.out]
          have X5 : Hid (Below w4.heap.size w4 w5) := by rw [h5]; exact below_drewN (Below.refl _ _) m5
          have Dw5 := Lib.hid (X5.out)
          replace Hhv := Lib.hid (Hhv.out.upb Dw5.out)
          replace Hhu := Lib.hid (Hhu.out.upb Dw5.out)
          replace B := Lib.hid (B.out.upb Dw5.out)
          replace H2 := Lib.hid (H2.out.upb Dw5.out)
          replace H3 := Lib.hid (H3.out.upb Dw5.out)
          clear Dw5 h5 X5
          go_wp2_with (fail)
          go_ret
          exact ⟨rfl, B.out⟩
    · have hok := okB_wide (sp := sp) hw
      obtain ⟨f1, f2, f3⟩ := no_ends hok
      have HR := Lib.hid (Bk.err_rt he)
      refine (break_any xs _ _ sp rm _ Hhv.out lhv).mono ?_
      rintro e w2 hP
      obtain ⟨A2, c2, rfl, H2, X2⟩ := br_get (ok := false) (x := 0) (s := []) (y := 0) (n := 0) hP hok he f1 f2 rfl
      have Dw2 := Lib.hid (X2.out)
      replace Hhv := Lib.hid (Hhv.out.upb Dw2.out)
      replace Hhu := Lib.hid (Hhu.out.upb Dw2.out)
      replace B := Lib.hid (B.out.upb Dw2.out)
      clear Dw2 hP X2 H2
      go_wp2_with (fail)
      refine (prove_any xs _ _ sp rm _ Hhv.out lhv).mono ?_
      rintro e w3 hP
      obtain ⟨A3, c3, rfl, H3, X3⟩ := pr_get (ok := false) (x := 0) (s := []) (n := 0) hP hok he f3 rfl
      have Dw3 := Lib.hid (X3.out)
      replace Hhv := Lib.hid (Hhv.out.upb Dw3.out)
      replace Hhu := Lib.hid (Hhu.out.upb Dw3.out)
      replace B := Lib.hid (B.out.upb Dw3.out)
      clear Dw3 hP X3 H3
      go_wp2_with (fail)
      refine (refError_is _ xs sp rm _ Hhv.out lhv he).mono ?_
      rintro e _ ⟨rfl, rfl⟩
      go_wp2_with (fail)
      refine (refWide_is _ xs rm _ Hhv.out lhv hw).mono ?_
      rintro e _ ⟨rfl, rfl⟩
      go_wp2_with (fail)
      refine (cost_no _ _ xs es sp rm _ Hhv.out Hhu.out HR.out lhu (Bk.cst_wide HR.out.pos hw)).mono ?_
      rintro e _ ⟨s, rfl, rfl⟩
      go_wp2_with (fail)
      go_ret
      exact ⟨rfl, B.out⟩
  · have hok := okB_err he
    obtain ⟨f1, f2, f3⟩ := no_ends hok
    obtain ⟨x, hx⟩ : ∃ x, Bk.err xs sp rm = x := ⟨_, rfl⟩
    have hne : (x != 0) = true := by rw [← hx]; simpa using he
    clear he
    refine (break_any xs _ _ sp rm _ Hhv.out lhv).mono ?_
    rintro e w2 hP
    obtain ⟨A2, c2, rfl, H2, X2⟩ := br_get (ok := false) (x := x) (s := []) (y := 0) (n := 0) hP hok hx f1 f2 rfl
    have Dw2 := Lib.hid (X2.out)
    replace Hhv := Lib.hid (Hhv.out.upb Dw2.out)
    replace Hhu := Lib.hid (Hhu.out.upb Dw2.out)
    replace B := Lib.hid (B.out.upb Dw2.out)
    clear Dw2 hP X2 H2
    go_wp2_with (fail)
    refine (prove_any xs _ _ sp rm _ Hhv.out lhv).mono ?_
    rintro e w3 hP
    obtain ⟨A3, c3, rfl, H3, X3⟩ := pr_get (ok := false) (x := x) (s := []) (n := 0) hP hok hx f3 rfl
    have Dw3 := Lib.hid (X3.out)
    replace Hhv := Lib.hid (Hhv.out.upb Dw3.out)
    replace Hhu := Lib.hid (Hhu.out.upb Dw3.out)
    replace B := Lib.hid (B.out.upb Dw3.out)
    clear Dw3 hP X3 H3
    go_wp2_with (fail)
    go_ret
    exact ⟨rfl, B.out⟩

end Go.Proofs.Ytdcndhfjfllehaa

/- The statement BreaksWide, walked. -/
import Derived.Test.YtdcndhfjfllehaaL2
namespace Go.Proofs.Ytdcndhfjfllehaa
open Go.RowKit
set_option linter.unusedVariables false
set_option linter.unusedSimpArgs false

def mxL (xs : List Int) : Int := xs.foldl max 0
theorem mxL_snoc (xs : List Int) (x : Int) : mxL (xs ++ [x]) = max (mxL xs) x := by unfold mxL; rw [List.foldl_append]; rfl
theorem mxL_le (xs : List Int) : (∀ x ∈ xs, x ≤ mxL xs) ∧ 0 ≤ mxL xs ∧ (mxL xs = 0 ∨ mxL xs ∈ xs) := by
  refine Bk.rev_ind (P := fun xs => (∀ x ∈ xs, x ≤ mxL xs) ∧ 0 ≤ mxL xs ∧ (mxL xs = 0 ∨ mxL xs ∈ xs)) ⟨by simp, Int.le_refl _, .inl rfl⟩ (fun l a ⟨h1, h2, h3⟩ => ?_) xs
  rw [mxL_snoc]
  refine ⟨fun x hx => ?_, by omega, ?_⟩
  · rcases List.mem_append.1 hx with hx | hx
    · have := h1 x hx; omega
    · simp at hx; omega
  · rcases Int.lt_or_le (mxL l) a with h | h
    · right; rw [Int.max_eq_right (by omega)]; simp
    · rw [Int.max_eq_left h]
      rcases h3 with h3 | h3
      · exact .inl h3
      · right; simp [h3]
theorem mx_wide {xs : List Int} {sp rm : Int} (hr : Bk.Rt xs sp rm) (hne : xs ≠ []) : 1 ≤ mxL xs ∧ mxL xs ≤ 1099511627776 ∧ Bk.wide xs rm = decide (rm < mxL xs) ∧ Bk.err [mxL xs] sp rm = 0 := by
  obtain ⟨h1, h2, h3⟩ := mxL_le xs
  have hm : mxL xs ∈ xs := by
    rcases h3 with h3 | h3
    · exfalso
      cases xs with
      | nil => exact hne rfl
      | cons x r =>
        have := h1 x (by simp)
        have := (hr.w x (by simp)).1
        omega
    · exact h3
  have h4 := hr.w _ hm
  refine ⟨h4.1, h4.2, ?_, ?_⟩
  · rw [Bool.eq_iff_iff, decide_eq_true_eq]
    unfold Bk.wide
    rw [List.any_eq_true]
    constructor
    · rintro ⟨x, hx, h5⟩
      have := h1 x hx
      simp at h5; omega
    · intro h5
      exact ⟨_, hm, by simpa using h5⟩
  · have hb : Bk.badW (mxL xs) = false := by simp [Bk.badW]; omega
    have hs := hr.s
    have hr' := hr.r
    unfold Bk.err
    rw [if_neg (by simp), if_neg (by simp [hb]), if_pos (by simp [Bk.argOk]; omega)]
theorem wide_one (m rm : Int) : Bk.wide [m] rm = decide (rm < m) := by simp [Bk.wide]
theorem line_some (v : Value) (xs : List Int) (sp rm : Int) (j : Nat) (w : World) (hv : IsInts w v xs) (hr : Bk.Rt xs sp rm) (hij : 0 < j) (hj : j ≤ xs.length) {c : Int} (ho : Bk.lc sp rm xs j = some c) :
    Calls Try.prog 21 #[v, .int .i64 sp, .int .i64 rm, .int .i64 0, .int .i64 j] w fun e w' => e = .returned (.tuple #[.int .i64 c, .bool true]) ∧ w = w' := by
  refine (line_any v xs sp rm 0 j w hv hr hij hj).mono ?_
  rintro e w' ⟨he, hw⟩
  rw [he, show Bk.lc sp rm (xs.drop 0) (j - 0) = some c from ho]
  exact ⟨rfl, hw⟩
theorem line_none (v : Value) (xs : List Int) (sp rm : Int) (j : Nat) (w : World) (hv : IsInts w v xs) (hr : Bk.Rt xs sp rm) (hij : 0 < j) (hj : j ≤ xs.length) (ho : Bk.lc sp rm xs j = none) :
    Calls Try.prog 21 #[v, .int .i64 sp, .int .i64 rm, .int .i64 0, .int .i64 j] w fun e w' => e = .returned (.tuple #[.int .i64 0, .bool false]) ∧ w = w' := by
  refine (line_any v xs sp rm 0 j w hv hr hij hj).mono ?_
  rintro e w' ⟨he, hw⟩
  rw [he, show Bk.lc sp rm (xs.drop 0) (j - 0) = none from ho]
  exact ⟨rfl, hw⟩
theorem lc_wide {xs : List Int} {sp rm : Int} (hp : Bk.pos sp xs) (hw : Bk.wide xs rm = true) : Bk.lc sp rm xs xs.length = none := by
  cases h : Bk.lc sp rm xs xs.length with
  | none => rfl
  | some c =>
    obtain ⟨x, hx, h1⟩ := List.any_eq_true.1 hw
    have := (Bk.lc_fit hp h).2.2 x (by rwa [List.take_length])
    simp at h1; omega

set_option maxHeartbeats 4000000 in
set_option maxRecDepth 100000 in
theorem BreaksWide_any (v : Value) (xs : List Int) (sp rm : Int) (w : World) (hv : IsInts w v xs) (lhv : xs.length ≤ 9223372036854775807) :
    Calls Try.prog 8 #[v, .int .i64 sp, .int .i64 rm] w fun e w' => e = .returned (.bool true) ∧ Below w.heap.size w w' := by
  have Hhv := Lib.hid hv
  obtain ⟨A, c, rfl, _⟩ := id hv
  clear hv
  have B := Lib.hid (Below.refl w.heap.size w)
  go_enter Try.func8, Try.ntmps8
  go_wp2_with (fail)
  refine (sane_any _).mono ?_
  rintro e w1 ⟨rfl, b1⟩
  have Dw1 := Lib.hid (b1)
  replace Hhv := Lib.hid (Hhv.out.upb Dw1.out)
  replace B := Lib.hid (B.out.upb Dw1.out)
  clear Dw1 b1
  go_wp2_with (fail)
  by_cases he : Bk.err xs sp rm = 0
  · have HR := Lib.hid (Bk.err_rt he)
    have hn := HR.out.len
    by_cases hx : xs = []
    · subst hx
      have hok := okB_yes he (show Bk.wide [] rm = false from rfl)
      obtain ⟨f1, f2, f3⟩ := yes_ends hok
      refine (break_any [] _ _ sp rm _ Hhv.out lhv).mono ?_
      rintro e w2 hP
      obtain ⟨A2, c2, rfl, H2, X2⟩ := br_get (ok := true) (x := 0) (s := []) (y := 0) (n := 0) hP hok he f1 f2 rfl
      have Dw2 := Lib.hid (X2.out)
      replace Hhv := Lib.hid (Hhv.out.upb Dw2.out)
      replace B := Lib.hid (B.out.upb Dw2.out)
      clear Dw2 hP X2 H2
      go_wp2_with (fail)
      refine (refError_is _ [] sp rm _ Hhv.out lhv he).mono ?_
      rintro e _ ⟨rfl, rfl⟩
      go_wp2_with (fail)
      go_ret
      exact ⟨rfl, B.out⟩
    · have hn0 : 0 < xs.length := List.length_pos_iff.2 hx
      have hz : ((xs.length : Int) == 0) = false := by rw [beq_eq_false_iff_ne]; omega
      obtain ⟨m1, m2, m3, m4⟩ := mx_wide HR.out hx
      have HM := Lib.hid m4
      cases hw : Bk.wide xs rm
      · have hok := okB_yes he hw
        obtain ⟨f1, f2, f3⟩ := yes_ends hok
        have HOK := Lib.hid (okB_parts hok).2.2.1
        rw [hw] at m3
        have m5 : mxL xs ≤ rm := by have := of_decide_eq_false m3.symm; omega
        have hok1 : okB [mxL xs] sp rm = true := okB_yes HM.out (by rw [wide_one]; exact m3.symm)
        have hdl : decide (mxL xs ≤ rm) = true := by rw [decide_eq_true_eq]; exact m5
        clear m3
        refine (break_any xs _ _ sp rm _ Hhv.out lhv).mono ?_
        rintro e w2 hP
        obtain ⟨A2, c2, rfl, H2, X2⟩ := br_get (ok := true) (x := 0) (s := (endsI sp rm 0 xs)) (y := (Bk.at_ (Bk.tab sp rm xs) 0)) (n := (endsI sp rm 0 xs).length) hP hok he f1 f2 rfl
        have Dw2 := Lib.hid (X2.out)
        replace Hhv := Lib.hid (Hhv.out.upb Dw2.out)
        replace B := Lib.hid (B.out.upb Dw2.out)
        clear Dw2 hP X2
        go_wp2_with (fail)
        have hel : (endsI sp rm 0 xs).length ≤ 64 := by rw [← f1]; exact esL_64 xs sp rm
        clear f1 f2 f3
        refine (refError_is _ xs sp rm _ Hhv.out lhv he).mono ?_
        rintro e _ ⟨rfl, rfl⟩
        go_wp2_with (fail)
        go_loop [11, 13, 46] (fun m d i => ∃ (k : Nat), k ≤ xs.length ∧ i = .int .i64 k ∧ m = .int .i64 (mxL (xs.take k))) (fun _ _ i => xs.length - (intOf i).toNat)
        case atStart => exact ⟨0, by omega, rfl, rfl⟩
        case round =>
          obtain ⟨k, hk, rfl, rfl⟩ := hrel
          by_cases hlt : k < xs.length
          · obtain ⟨A', c', e', hr'⟩ := Hhv.out
            injection e' with e1 e2 e3
            subst e1 e3
            obtain ⟨b, off, rfl, _, hc⟩ := ints_at hr' hlt
            have HS := Lib.hid (show mxL (xs.take (k + 1)) = max (mxL (xs.take k)) xs[k] from by rw [List.take_succ_eq_append_getElem hlt, mxL_snoc])
            generalize xs[k] = x at *
            generalize mxL (xs.take k) = z at *
            clear hr' e2
            rcases Int.lt_or_le z x with hx2 | hx2
            all_goals
              go_wp2
              go_round
              case rel => exact ⟨k + 1, by omega, by go_num, by congr 1; have := HS.out; omega⟩
              case measure => simp [intOf]; omega
          · obtain rfl : k = xs.length := by omega
            rw [List.take_length]
            generalize hM : mxL xs = M at *
            go_wp2_with (fail)
            refine (break_any [M] _ _ sp rm _ (ints_lit' w2 [M] 1 _ rfl rfl) (by simp)).mono ?_
            rintro e w3 hP
            obtain ⟨A3, c3, rfl, H3, X3⟩ := br_get (ok := true) (x := 0) (s := esL [M] sp rm) (y := coL [M] sp rm) (n := (esL [M] sp rm).length) hP hok1 HM.out rfl rfl rfl
            have Dw3 := Lib.hid ((al1 _ _).up X3.out)
            replace Hhv := Lib.hid (Hhv.out.upb Dw3.out)
            replace B := Lib.hid (B.out.upb Dw3.out)
            replace H2 := Lib.hid (H2.out.upb Dw3.out)
            clear Dw3 hP X3 H3
            go_wp2_with (fail)
            cases hlc : Bk.lc sp rm xs xs.length
            · skip
              refine (line_none _ xs sp rm xs.length _ Hhv.out HR.out hn0 (Nat.le_refl _) hlc).mono ?_
              rintro e _ ⟨rfl, rfl⟩
              go_wp2_with (fail)
              go_ret
              exact ⟨rfl, B.out⟩
            · rename_i c0
              obtain ⟨g1, g2⟩ := one_line HOK.out hx hlc
              rw [g1]
              have HG := Lib.hid g2
              clear g1 g2
              refine (line_some _ xs sp rm xs.length _ Hhv.out HR.out hn0 (Nat.le_refl _) hlc).mono ?_
              rintro e _ ⟨rfl, rfl⟩
              go_wp2_with (fail)
              refine (sameInts_any _ _ (endsI sp rm 0 xs) [(xs.length : Int)] _ (H2.out.below (al1 _ _)) (ints_lit' w3 [(xs.length : Int)] 1 _ rfl rfl) (by omega) (by simp)).mono ?_
              rintro e w4 ⟨rfl, m4, h4⟩
              rw [show decide (endsI sp rm 0 xs = [(xs.length : Int)]) = true by rw [decide_eq_true_eq]; exact HG.out]
              have X4 : Hid (Below w3.heap.size w3 w4) := by rw [h4]; exact below_drewN (al1 w3 _) m4
              have Dw4 := Lib.hid (X4.out)
              replace Hhv := Lib.hid (Hhv.out.upb Dw4.out)
              replace B := Lib.hid (B.out.upb Dw4.out)
              replace H2 := Lib.hid (H2.out.upb Dw4.out)
              clear Dw4 h4 X4
              go_wp2_with (fail)
              go_ret
              exact ⟨rfl, B.out⟩
      · have hok := okB_wide (sp := sp) hw
        obtain ⟨f1, f2, f3⟩ := no_ends hok
        rw [hw] at m3
        have m5 : rm < mxL xs := of_decide_eq_true m3.symm
        have hok1 : okB [mxL xs] sp rm = false := okB_wide (by rw [wide_one]; exact m3.symm)
        have hdl : decide (mxL xs ≤ rm) = false := by rw [decide_eq_false_iff_not]; omega
        clear m3
        refine (break_any xs _ _ sp rm _ Hhv.out lhv).mono ?_
        rintro e w2 hP
        obtain ⟨A2, c2, rfl, H2, X2⟩ := br_get (ok := false) (x := 0) (s := []) (y := 0) (n := 0) hP hok he f1 f2 rfl
        have Dw2 := Lib.hid (X2.out)
        replace Hhv := Lib.hid (Hhv.out.upb Dw2.out)
        replace B := Lib.hid (B.out.upb Dw2.out)
        clear Dw2 hP X2 H2
        go_wp2_with (fail)
        refine (refError_is _ xs sp rm _ Hhv.out lhv he).mono ?_
        rintro e _ ⟨rfl, rfl⟩
        go_wp2_with (fail)
        go_loop [11, 13, 46] (fun m d i => ∃ (k : Nat), k ≤ xs.length ∧ i = .int .i64 k ∧ m = .int .i64 (mxL (xs.take k))) (fun _ _ i => xs.length - (intOf i).toNat)
        case atStart => exact ⟨0, by omega, rfl, rfl⟩
        case round =>
          obtain ⟨k, hk, rfl, rfl⟩ := hrel
          by_cases hlt : k < xs.length
          · obtain ⟨A', c', e', hr'⟩ := Hhv.out
            injection e' with e1 e2 e3
            subst e1 e3
            obtain ⟨b, off, rfl, _, hc⟩ := ints_at hr' hlt
            have HS := Lib.hid (show mxL (xs.take (k + 1)) = max (mxL (xs.take k)) xs[k] from by rw [List.take_succ_eq_append_getElem hlt, mxL_snoc])
            generalize xs[k] = x at *
            generalize mxL (xs.take k) = z at *
            clear hr' e2
            rcases Int.lt_or_le z x with hx2 | hx2
            all_goals
              go_wp2
              go_round
              case rel => exact ⟨k + 1, by omega, by go_num, by congr 1; have := HS.out; omega⟩
              case measure => simp [intOf]; omega
          · obtain rfl : k = xs.length := by omega
            rw [List.take_length]
            generalize hM : mxL xs = M at *
            go_wp2_with (fail)
            refine (break_any [M] _ _ sp rm _ (ints_lit' w2 [M] 1 _ rfl rfl) (by simp)).mono ?_
            rintro e w3 hP
            obtain ⟨A3, c3, rfl, H3, X3⟩ := br_get (ok := false) (x := 0) (s := esL [M] sp rm) (y := coL [M] sp rm) (n := (esL [M] sp rm).length) hP hok1 HM.out rfl rfl rfl
            have Dw3 := Lib.hid ((al1 _ _).up X3.out)
            replace Hhv := Lib.hid (Hhv.out.upb Dw3.out)
            replace B := Lib.hid (B.out.upb Dw3.out)
            clear Dw3 hP X3 H3
            go_wp2_with (fail)
            refine (line_none _ xs sp rm xs.length _ Hhv.out HR.out hn0 (Nat.le_refl _) (lc_wide HR.out.pos hw)).mono ?_
            rintro e _ ⟨rfl, rfl⟩
            go_wp2_with (fail)
            go_ret
            exact ⟨rfl, B.out⟩
  · obtain ⟨x, hx⟩ : ∃ x, Bk.err xs sp rm = x := ⟨_, rfl⟩
    have hne : (x != 0) = true := by rw [← hx]; simpa using he
    have hok := okB_err he
    obtain ⟨f1, f2, f3⟩ := no_ends hok
    refine (break_any xs _ _ sp rm _ Hhv.out lhv).mono ?_
    rintro e w2 hP
    obtain ⟨A2, c2, rfl, H2, X2⟩ := br_get (ok := false) (x := x) (s := []) (y := 0) (n := 0) hP hok hx f1 f2 rfl
    have Dw2 := Lib.hid (X2.out)
    replace Hhv := Lib.hid (Hhv.out.upb Dw2.out)
    replace B := Lib.hid (B.out.upb Dw2.out)
    clear Dw2 hP X2 H2
    go_wp2_with (fail)
    go_ret
    exact ⟨rfl, B.out⟩

end Go.Proofs.Ytdcndhfjfllehaa

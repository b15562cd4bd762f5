/- Walks of the reference's Right, About, Covers, Few. -/
import Derived.Test.YtninnpcggeofmaaW3
namespace Go.Proofs.Ytninnpcggeofmaa
open Go.RowKit
set_option linter.unusedVariables false
set_option linter.unusedSimpArgs false

theorem not_right {h : Hh} (hn : ¬ Hh.Rt h) : Hh.right h = false := by
  cases hr : Hh.right h with
  | false => rfl
  | true => exact absurd ((Hh.right_iff h).1 hr) hn
theorem inn_t {n lo hi : Int} (h : Hh.inn n lo hi = true) : lo ≤ n ∧ n ≤ hi := by simpa [Hh.inn] using h
theorem inn_f {n lo hi : Int} (h : Hh.inn n lo hi = false) : ¬ (lo ≤ n ∧ n ≤ hi) := by
  intro h2
  have : Hh.inn n lo hi = true := by simpa [Hh.inn] using h2
  rw [this] at h; cases h
theorem span_t {a b : Int} (h : Hh.span a b = true) : 0 ≤ a ∧ a < b ∧ b ≤ 1099511627776 := by
  simp [Hh.span] at h; omega
theorem span_f {a b : Int} (h : Hh.span a b = false) : ¬ (0 ≤ a ∧ a < b ∧ b ≤ 1099511627776) := by
  rintro ⟨h1, h2, h3⟩
  have : Hh.span a b = true := by simp [Hh.span, h1, h2, h3]
  rw [this] at h; cases h
set_option maxHeartbeats 4000000 in
theorem refRight_any (h : Hh) (w : World) : Calls Try.prog 25 #[vH h] w (BPost (Hh.right h) w) := by
  have HB0 := BoxH.new w h
  have HN := Lib.hid (al1 w (.cells #[.int .i64 h.no, .int .i64 h.kind, .int .i64 h.spk, .int .i64 h.fst, .int .i64 h.lst, .int .i64 h.lang, .int .i64 h.frm, .int .i64 h.unt, .int .i64 h.known, .int .i64 h.ms] 24))
  have hvv : vH h = vH h := rfl
  unfold vH
  clear hvv
  go_enter Try.func25, Try.ntmps25
  have q0 := HB0.c0
  have q1 := HB0.c1
  have q2 := HB0.c2
  have q3 := HB0.c3
  have q4 := HB0.c4
  have q5 := HB0.c5
  have q6 := HB0.c6
  have q7 := HB0.c7
  have q8 := HB0.c8
  have q9 := HB0.c9
  by_cases t1 : h.no < 0
  · have t1d : decide (h.no < 0) = true := decide_eq_true t1
    go_wp2_with (fail)
    go_ret
    exact ⟨ret_bool (not_right (fun hn => by have := hn.no; omega)).symm, al1 w _⟩
  · have t1d : decide (h.no < 0) = false := decide_eq_false t1
    by_cases t2 : 1048576 < h.no
    · have t2d : decide (1048576 < h.no) = true := decide_eq_true t2
      go_wp2_with (fail)
      go_ret
      exact ⟨ret_bool (not_right (fun hn => by have := hn.no; omega)).symm, al1 w _⟩
    · have t2d : decide (1048576 < h.no) = false := decide_eq_false t2
      by_cases t3 : h.kind < 1
      · have t3d : decide (h.kind < 1) = true := decide_eq_true t3
        go_wp2_with (fail)
        go_ret
        exact ⟨ret_bool (not_right (fun hn => by have := hn.kind; omega)).symm, al1 w _⟩
      · have t3d : decide (h.kind < 1) = false := decide_eq_false t3
        by_cases t4 : 5 < h.kind
        · have t4d : decide (5 < h.kind) = true := decide_eq_true t4
          go_wp2_with (fail)
          go_ret
          exact ⟨ret_bool (not_right (fun hn => by have := hn.kind; omega)).symm, al1 w _⟩
        · have t4d : decide (5 < h.kind) = false := decide_eq_false t4
          by_cases s0 : h.spk = -1
          · have s0d : (h.spk != -1) = false := by rw [bne_eq_false_iff_eq]; exact s0
            by_cases g0 : h.lang = -1
            · have g0d : (h.lang != -1) = false := by rw [bne_eq_false_iff_eq]; exact g0
              go_wp2_with (fail)
              cases x1 : Hh.span h.fst h.lst
              · refine (refSpan_is x1 _).mono ?_
                rintro e _ ⟨rfl, rfl⟩
                have x1p := span_f x1
                go_wp2_with (fail)
                go_ret
                exact ⟨ret_bool (not_right (fun hn => by have := hn.fst; omega)).symm, al1 w _⟩
              · refine (refSpan_is x1 _).mono ?_
                rintro e _ ⟨rfl, rfl⟩
                have x1p := span_t x1
                go_wp2_with (fail)
                cases x2 : Hh.span h.frm h.unt
                · refine (refSpan_is x2 _).mono ?_
                  rintro e _ ⟨rfl, rfl⟩
                  have x2p := span_f x2
                  go_wp2_with (fail)
                  go_ret
                  exact ⟨ret_bool (not_right (fun hn => by have := hn.frm; omega)).symm, al1 w _⟩
                · refine (refSpan_is x2 _).mono ?_
                  rintro e _ ⟨rfl, rfl⟩
                  have x2p := span_t x2
                  go_wp2_with (fail)
                  cases x3 : Hh.inn h.known 0 1099511627775
                  · refine (refTime_is x3 _).mono ?_
                    rintro e _ ⟨rfl, rfl⟩
                    have x3p := inn_f x3
                    go_wp2_with (fail)
                    go_ret
                    exact ⟨ret_bool (not_right (fun hn => by have := hn.known; omega)).symm, al1 w _⟩
                  · refine (refTime_is x3 _).mono ?_
                    rintro e _ ⟨rfl, rfl⟩
                    have x3p := inn_t x3
                    by_cases k0 : h.kind = 3
                    · have k0d : (h.kind == 3) = true := by rw [beq_iff_eq]; exact k0
                      by_cases m0 : 1 ≤ h.ms
                      · have m0d : decide (1 ≤ h.ms) = true := decide_eq_true m0
                        by_cases m1 : h.ms ≤ 1073741824
                        · have m1d : decide (h.ms ≤ 1073741824) = true := decide_eq_true m1
                          have HR := Lib.hid ((Hh.right_iff h).2 ⟨by omega, by omega, by omega, by omega, x1p, x2p, x3p, fun hk => by omega, fun hk => by omega⟩)
                          go_wp2_with (fail)
                          go_ret
                          exact ⟨ret_bool HR.out.symm, al1 w _⟩
                        · have m1d : decide (h.ms ≤ 1073741824) = false := decide_eq_false m1
                          go_wp2_with (fail)
                          go_ret
                          exact ⟨ret_bool (not_right (fun hn => by have := hn.ms.1 k0; omega)).symm, al1 w _⟩
                      · have m0d : decide (1 ≤ h.ms) = false := decide_eq_false m0
                        go_wp2_with (fail)
                        go_ret
                        exact ⟨ret_bool (not_right (fun hn => by have := hn.ms.1 k0; omega)).symm, al1 w _⟩
                    · have k0d : (h.kind == 3) = false := by rw [beq_eq_false_iff_ne]; exact k0
                      by_cases m0 : h.ms = 0
                      · have m0d : (h.ms == 0) = true := by rw [beq_iff_eq]; exact m0
                        have HR := Lib.hid ((Hh.right_iff h).2 ⟨by omega, by omega, by omega, by omega, x1p, x2p, x3p, fun hk => by omega, fun hk => by omega⟩)
                        go_wp2_with (fail)
                        go_ret
                        exact ⟨ret_bool HR.out.symm, al1 w _⟩
                      · have m0d : (h.ms == 0) = false := by rw [beq_eq_false_iff_ne]; exact m0
                        go_wp2_with (fail)
                        go_ret
                        exact ⟨ret_bool (not_right (fun hn => by have := hn.ms.2 k0; omega)).symm, al1 w _⟩
            · have g0d : (h.lang != -1) = true := by rw [bne_iff_ne]; exact g0
              go_wp2_with (fail)
              cases g1 : Hh.inn h.lang 0 31
              · refine (refLanguage_is g1 _).mono ?_
                rintro e _ ⟨rfl, rfl⟩
                have g1p := inn_f g1
                go_wp2_with (fail)
                go_ret
                exact ⟨ret_bool (not_right (fun hn => by have := hn.lang; omega)).symm, al1 w _⟩
              · refine (refLanguage_is g1 _).mono ?_
                rintro e _ ⟨rfl, rfl⟩
                have g1p := inn_t g1
                go_wp2_with (fail)
                cases x1 : Hh.span h.fst h.lst
                · refine (refSpan_is x1 _).mono ?_
                  rintro e _ ⟨rfl, rfl⟩
                  have x1p := span_f x1
                  go_wp2_with (fail)
                  go_ret
                  exact ⟨ret_bool (not_right (fun hn => by have := hn.fst; omega)).symm, al1 w _⟩
                · refine (refSpan_is x1 _).mono ?_
                  rintro e _ ⟨rfl, rfl⟩
                  have x1p := span_t x1
                  go_wp2_with (fail)
                  cases x2 : Hh.span h.frm h.unt
                  · refine (refSpan_is x2 _).mono ?_
                    rintro e _ ⟨rfl, rfl⟩
                    have x2p := span_f x2
                    go_wp2_with (fail)
                    go_ret
                    exact ⟨ret_bool (not_right (fun hn => by have := hn.frm; omega)).symm, al1 w _⟩
                  · refine (refSpan_is x2 _).mono ?_
                    rintro e _ ⟨rfl, rfl⟩
                    have x2p := span_t x2
                    go_wp2_with (fail)
                    cases x3 : Hh.inn h.known 0 1099511627775
                    · refine (refTime_is x3 _).mono ?_
                      rintro e _ ⟨rfl, rfl⟩
                      have x3p := inn_f x3
                      go_wp2_with (fail)
                      go_ret
                      exact ⟨ret_bool (not_right (fun hn => by have := hn.known; omega)).symm, al1 w _⟩
                    · refine (refTime_is x3 _).mono ?_
                      rintro e _ ⟨rfl, rfl⟩
                      have x3p := inn_t x3
                      by_cases k0 : h.kind = 3
                      · have k0d : (h.kind == 3) = true := by rw [beq_iff_eq]; exact k0
                        by_cases m0 : 1 ≤ h.ms
                        · have m0d : decide (1 ≤ h.ms) = true := decide_eq_true m0
                          by_cases m1 : h.ms ≤ 1073741824
                          · have m1d : decide (h.ms ≤ 1073741824) = true := decide_eq_true m1
                            have HR := Lib.hid ((Hh.right_iff h).2 ⟨by omega, by omega, by omega, by omega, x1p, x2p, x3p, fun hk => by omega, fun hk => by omega⟩)
                            go_wp2_with (fail)
                            go_ret
                            exact ⟨ret_bool HR.out.symm, al1 w _⟩
                          · have m1d : decide (h.ms ≤ 1073741824) = false := decide_eq_false m1
                            go_wp2_with (fail)
                            go_ret
                            exact ⟨ret_bool (not_right (fun hn => by have := hn.ms.1 k0; omega)).symm, al1 w _⟩
                        · have m0d : decide (1 ≤ h.ms) = false := decide_eq_false m0
                          go_wp2_with (fail)
                          go_ret
                          exact ⟨ret_bool (not_right (fun hn => by have := hn.ms.1 k0; omega)).symm, al1 w _⟩
                      · have k0d : (h.kind == 3) = false := by rw [beq_eq_false_iff_ne]; exact k0
                        by_cases m0 : h.ms = 0
                        · have m0d : (h.ms == 0) = true := by rw [beq_iff_eq]; exact m0
                          have HR := Lib.hid ((Hh.right_iff h).2 ⟨by omega, by omega, by omega, by omega, x1p, x2p, x3p, fun hk => by omega, fun hk => by omega⟩)
                          go_wp2_with (fail)
                          go_ret
                          exact ⟨ret_bool HR.out.symm, al1 w _⟩
                        · have m0d : (h.ms == 0) = false := by rw [beq_eq_false_iff_ne]; exact m0
                          go_wp2_with (fail)
                          go_ret
                          exact ⟨ret_bool (not_right (fun hn => by have := hn.ms.2 k0; omega)).symm, al1 w _⟩
          · have s0d : (h.spk != -1) = true := by rw [bne_iff_ne]; exact s0
            go_wp2_with (fail)
            cases s1 : Hh.inn h.spk 0 63
            · refine (refSpeaker_is s1 _).mono ?_
              rintro e _ ⟨rfl, rfl⟩
              have s1p := inn_f s1
              go_wp2_with (fail)
              go_ret
              exact ⟨ret_bool (not_right (fun hn => by have := hn.spk; omega)).symm, al1 w _⟩
            · refine (refSpeaker_is s1 _).mono ?_
              rintro e _ ⟨rfl, rfl⟩
              have s1p := inn_t s1
              by_cases g0 : h.lang = -1
              · have g0d : (h.lang != -1) = false := by rw [bne_eq_false_iff_eq]; exact g0
                go_wp2_with (fail)
                cases x1 : Hh.span h.fst h.lst
                · refine (refSpan_is x1 _).mono ?_
                  rintro e _ ⟨rfl, rfl⟩
                  have x1p := span_f x1
                  go_wp2_with (fail)
                  go_ret
                  exact ⟨ret_bool (not_right (fun hn => by have := hn.fst; omega)).symm, al1 w _⟩
                · refine (refSpan_is x1 _).mono ?_
                  rintro e _ ⟨rfl, rfl⟩
                  have x1p := span_t x1
                  go_wp2_with (fail)
                  cases x2 : Hh.span h.frm h.unt
                  · refine (refSpan_is x2 _).mono ?_
                    rintro e _ ⟨rfl, rfl⟩
                    have x2p := span_f x2
                    go_wp2_with (fail)
                    go_ret
                    exact ⟨ret_bool (not_right (fun hn => by have := hn.frm; omega)).symm, al1 w _⟩
                  · refine (refSpan_is x2 _).mono ?_
                    rintro e _ ⟨rfl, rfl⟩
                    have x2p := span_t x2
                    go_wp2_with (fail)
                    cases x3 : Hh.inn h.known 0 1099511627775
                    · refine (refTime_is x3 _).mono ?_
                      rintro e _ ⟨rfl, rfl⟩
                      have x3p := inn_f x3
                      go_wp2_with (fail)
                      go_ret
                      exact ⟨ret_bool (not_right (fun hn => by have := hn.known; omega)).symm, al1 w _⟩
                    · refine (refTime_is x3 _).mono ?_
                      rintro e _ ⟨rfl, rfl⟩
                      have x3p := inn_t x3
                      by_cases k0 : h.kind = 3
                      · have k0d : (h.kind == 3) = true := by rw [beq_iff_eq]; exact k0
                        by_cases m0 : 1 ≤ h.ms
                        · have m0d : decide (1 ≤ h.ms) = true := decide_eq_true m0
                          by_cases m1 : h.ms ≤ 1073741824
                          · have m1d : decide (h.ms ≤ 1073741824) = true := decide_eq_true m1
                            have HR := Lib.hid ((Hh.right_iff h).2 ⟨by omega, by omega, by omega, by omega, x1p, x2p, x3p, fun hk => by omega, fun hk => by omega⟩)
                            go_wp2_with (fail)
                            go_ret
                            exact ⟨ret_bool HR.out.symm, al1 w _⟩
                          · have m1d : decide (h.ms ≤ 1073741824) = false := decide_eq_false m1
                            go_wp2_with (fail)
                            go_ret
                            exact ⟨ret_bool (not_right (fun hn => by have := hn.ms.1 k0; omega)).symm, al1 w _⟩
                        · have m0d : decide (1 ≤ h.ms) = false := decide_eq_false m0
                          go_wp2_with (fail)
                          go_ret
                          exact ⟨ret_bool (not_right (fun hn => by have := hn.ms.1 k0; omega)).symm, al1 w _⟩
                      · have k0d : (h.kind == 3) = false := by rw [beq_eq_false_iff_ne]; exact k0
                        by_cases m0 : h.ms = 0
                        · have m0d : (h.ms == 0) = true := by rw [beq_iff_eq]; exact m0
                          have HR := Lib.hid ((Hh.right_iff h).2 ⟨by omega, by omega, by omega, by omega, x1p, x2p, x3p, fun hk => by omega, fun hk => by omega⟩)
                          go_wp2_with (fail)
                          go_ret
                          exact ⟨ret_bool HR.out.symm, al1 w _⟩
                        · have m0d : (h.ms == 0) = false := by rw [beq_eq_false_iff_ne]; exact m0
                          go_wp2_with (fail)
                          go_ret
                          exact ⟨ret_bool (not_right (fun hn => by have := hn.ms.2 k0; omega)).symm, al1 w _⟩
              · have g0d : (h.lang != -1) = true := by rw [bne_iff_ne]; exact g0
                go_wp2_with (fail)
                cases g1 : Hh.inn h.lang 0 31
                · refine (refLanguage_is g1 _).mono ?_
                  rintro e _ ⟨rfl, rfl⟩
                  have g1p := inn_f g1
                  go_wp2_with (fail)
                  go_ret
                  exact ⟨ret_bool (not_right (fun hn => by have := hn.lang; omega)).symm, al1 w _⟩
                · refine (refLanguage_is g1 _).mono ?_
                  rintro e _ ⟨rfl, rfl⟩
                  have g1p := inn_t g1
                  go_wp2_with (fail)
                  cases x1 : Hh.span h.fst h.lst
                  · refine (refSpan_is x1 _).mono ?_
                    rintro e _ ⟨rfl, rfl⟩
                    have x1p := span_f x1
                    go_wp2_with (fail)
                    go_ret
                    exact ⟨ret_bool (not_right (fun hn => by have := hn.fst; omega)).symm, al1 w _⟩
                  · refine (refSpan_is x1 _).mono ?_
                    rintro e _ ⟨rfl, rfl⟩
                    have x1p := span_t x1
                    go_wp2_with (fail)
                    cases x2 : Hh.span h.frm h.unt
                    · refine (refSpan_is x2 _).mono ?_
                      rintro e _ ⟨rfl, rfl⟩
                      have x2p := span_f x2
                      go_wp2_with (fail)
                      go_ret
                      exact ⟨ret_bool (not_right (fun hn => by have := hn.frm; omega)).symm, al1 w _⟩
                    · refine (refSpan_is x2 _).mono ?_
                      rintro e _ ⟨rfl, rfl⟩
                      have x2p := span_t x2
                      go_wp2_with (fail)
                      cases x3 : Hh.inn h.known 0 1099511627775
                      · refine (refTime_is x3 _).mono ?_
                        rintro e _ ⟨rfl, rfl⟩
                        have x3p := inn_f x3
                        go_wp2_with (fail)
                        go_ret
                        exact ⟨ret_bool (not_right (fun hn => by have := hn.known; omega)).symm, al1 w _⟩
                      · refine (refTime_is x3 _).mono ?_
                        rintro e _ ⟨rfl, rfl⟩
                        have x3p := inn_t x3
                        by_cases k0 : h.kind = 3
                        · have k0d : (h.kind == 3) = true := by rw [beq_iff_eq]; exact k0
                          by_cases m0 : 1 ≤ h.ms
                          · have m0d : decide (1 ≤ h.ms) = true := decide_eq_true m0
                            by_cases m1 : h.ms ≤ 1073741824
                            · have m1d : decide (h.ms ≤ 1073741824) = true := decide_eq_true m1
                              have HR := Lib.hid ((Hh.right_iff h).2 ⟨by omega, by omega, by omega, by omega, x1p, x2p, x3p, fun hk => by omega, fun hk => by omega⟩)
                              go_wp2_with (fail)
                              go_ret
                              exact ⟨ret_bool HR.out.symm, al1 w _⟩
                            · have m1d : decide (h.ms ≤ 1073741824) = false := decide_eq_false m1
                              go_wp2_with (fail)
                              go_ret
                              exact ⟨ret_bool (not_right (fun hn => by have := hn.ms.1 k0; omega)).symm, al1 w _⟩
                          · have m0d : decide (1 ≤ h.ms) = false := decide_eq_false m0
                            go_wp2_with (fail)
                            go_ret
                            exact ⟨ret_bool (not_right (fun hn => by have := hn.ms.1 k0; omega)).symm, al1 w _⟩
                        · have k0d : (h.kind == 3) = false := by rw [beq_eq_false_iff_ne]; exact k0
                          by_cases m0 : h.ms = 0
                          · have m0d : (h.ms == 0) = true := by rw [beq_iff_eq]; exact m0
                            have HR := Lib.hid ((Hh.right_iff h).2 ⟨by omega, by omega, by omega, by omega, x1p, x2p, x3p, fun hk => by omega, fun hk => by omega⟩)
                            go_wp2_with (fail)
                            go_ret
                            exact ⟨ret_bool HR.out.symm, al1 w _⟩
                          · have m0d : (h.ms == 0) = false := by rw [beq_eq_false_iff_ne]; exact m0
                            go_wp2_with (fail)
                            go_ret
                            exact ⟨ret_bool (not_right (fun hn => by have := hn.ms.2 k0; omega)).symm, al1 w _⟩

def absS (h : Hh) (q : Hh.Qq) : Bool := (decide (h.spk < 0) || decide (h.spk = q.spk)) && decide (h.fst ≤ q.beg) && decide (q.beg < h.lst) && (decide (h.lang < 0) || decide (h.lang = q.lang))
theorem covs_abs (h : Hh) (q : Hh.Qq) : Hh.covs h q = (absS h q && decide (h.frm ≤ q.at_) && decide (q.at_ < h.unt)) := by
  unfold Hh.covs absS
  rw [Bool.eq_iff_iff]
  simp only [Bool.and_eq_true, Bool.or_eq_true, decide_eq_true_eq]
  constructor
  · rintro ⟨⟨⟨⟨⟨h1, h2⟩, h3⟩, h4⟩, h5⟩, h6⟩; exact ⟨⟨⟨⟨⟨h1, h3⟩, h4⟩, h2⟩, h5⟩, h6⟩
  · rintro ⟨⟨⟨⟨⟨h1, h3⟩, h4⟩, h2⟩, h5⟩, h6⟩; exact ⟨⟨⟨⟨⟨h1, h2⟩, h3⟩, h4⟩, h5⟩, h6⟩
set_option maxHeartbeats 4000000 in
theorem refAbout_any (h : Hh) (q : Hh.Qq) (hr : Hh.Rt h) (w : World) : Calls Try.prog 46 #[vH h, .int .i64 q.spk, .int .i64 q.beg, .int .i64 q.lang] w (BPost (absS h q) w) := by
  have HB0 := BoxH.new w h
  have HN := Lib.hid (al1 w (.cells #[.int .i64 h.no, .int .i64 h.kind, .int .i64 h.spk, .int .i64 h.fst, .int .i64 h.lst, .int .i64 h.lang, .int .i64 h.frm, .int .i64 h.unt, .int .i64 h.known, .int .i64 h.ms] 24))
  have hvv : vH h = vH h := rfl
  have hs := hr.spk
  have hg := hr.lang
  unfold vH
  clear hvv
  go_enter Try.func46, Try.ntmps46
  have q0 := HB0.c0
  have q1 := HB0.c1
  have q2 := HB0.c2
  have q3 := HB0.c3
  have q4 := HB0.c4
  have q5 := HB0.c5
  have q6 := HB0.c6
  have q7 := HB0.c7
  have q8 := HB0.c8
  have q9 := HB0.c9
  by_cases s0 : h.spk = -1
  · have s0d : (h.spk == -1) = true := by rw [beq_iff_eq]; exact s0
    by_cases f0 : h.fst ≤ q.beg
    · have f0d : decide (h.fst ≤ q.beg) = true := decide_eq_true f0
      by_cases f1 : q.beg < h.lst
      · have f1d : decide (q.beg < h.lst) = true := decide_eq_true f1
        by_cases g0 : h.lang = -1
        · have g0d : (h.lang == -1) = true := by rw [beq_iff_eq]; exact g0
          go_wp2_with (fail)
          go_ret
          exact ⟨ret_bool (by symm; unfold absS; simp; omega), al1 w _⟩
        · have g0d : (h.lang == -1) = false := by rw [beq_eq_false_iff_ne]; exact g0
          by_cases g1 : h.lang = q.lang
          · have g1d : (h.lang == q.lang) = true := by rw [beq_iff_eq]; exact g1
            go_wp2_with (fail)
            go_ret
            exact ⟨ret_bool (by symm; unfold absS; simp; omega), al1 w _⟩
          · have g1d : (h.lang == q.lang) = false := by rw [beq_eq_false_iff_ne]; exact g1
            go_wp2_with (fail)
            go_ret
            exact ⟨ret_bool (by symm; unfold absS; simp; omega), al1 w _⟩
      · have f1d : decide (q.beg < h.lst) = false := decide_eq_false f1
        go_wp2_with (fail)
        go_ret
        exact ⟨ret_bool (by symm; unfold absS; simp; omega), al1 w _⟩
    · have f0d : decide (h.fst ≤ q.beg) = false := decide_eq_false f0
      go_wp2_with (fail)
      go_ret
      exact ⟨ret_bool (by symm; unfold absS; simp; omega), al1 w _⟩
  · have s0d : (h.spk == -1) = false := by rw [beq_eq_false_iff_ne]; exact s0
    by_cases s1 : h.spk = q.spk
    · have s1d : (h.spk == q.spk) = true := by rw [beq_iff_eq]; exact s1
      by_cases f0 : h.fst ≤ q.beg
      · have f0d : decide (h.fst ≤ q.beg) = true := decide_eq_true f0
        by_cases f1 : q.beg < h.lst
        · have f1d : decide (q.beg < h.lst) = true := decide_eq_true f1
          by_cases g0 : h.lang = -1
          · have g0d : (h.lang == -1) = true := by rw [beq_iff_eq]; exact g0
            go_wp2_with (fail)
            go_ret
            exact ⟨ret_bool (by symm; unfold absS; simp; omega), al1 w _⟩
          · have g0d : (h.lang == -1) = false := by rw [beq_eq_false_iff_ne]; exact g0
            by_cases g1 : h.lang = q.lang
            · have g1d : (h.lang == q.lang) = true := by rw [beq_iff_eq]; exact g1
              go_wp2_with (fail)
              go_ret
              exact ⟨ret_bool (by symm; unfold absS; simp; omega), al1 w _⟩
            · have g1d : (h.lang == q.lang) = false := by rw [beq_eq_false_iff_ne]; exact g1
              go_wp2_with (fail)
              go_ret
              exact ⟨ret_bool (by symm; unfold absS; simp; omega), al1 w _⟩
        · have f1d : decide (q.beg < h.lst) = false := decide_eq_false f1
          go_wp2_with (fail)
          go_ret
          exact ⟨ret_bool (by symm; unfold absS; simp; omega), al1 w _⟩
      · have f0d : decide (h.fst ≤ q.beg) = false := decide_eq_false f0
        go_wp2_with (fail)
        go_ret
        exact ⟨ret_bool (by symm; unfold absS; simp; omega), al1 w _⟩
    · have s1d : (h.spk == q.spk) = false := by rw [beq_eq_false_iff_ne]; exact s1
      go_wp2_with (fail)
      go_ret
      exact ⟨ret_bool (by symm; unfold absS; simp; omega), al1 w _⟩

end Go.Proofs.Ytninnpcggeofmaa

/- Walk of Covers. -/
import Derived.Test.YtninnpcggeofmaaW2
namespace Go.Proofs.Ytninnpcggeofmaa
open Go.RowKit
set_option linter.unusedVariables false
set_option linter.unusedSimpArgs false

theorem right_is {h : Hh} {b : Bool} (hr : Hh.right h = b) (w : World) : Calls Try.prog 36 #[vH h] w (BPost b w) := by
  subst hr; exact right_any h w
def offS (h : Hh) (q : Hh.Qq) : Bool := decide (0 ≤ h.spk) && (h.spk != q.spk)
def offL (h : Hh) (q : Hh.Qq) : Bool := decide (0 ≤ h.lang) && (h.lang != q.lang)
theorem covs_eq (h : Hh) (q : Hh.Qq) : Hh.covs h q = (!offS h q && !offL h q && Hh.inn q.beg h.fst (h.lst - 1) && Hh.inn q.at_ h.frm (h.unt - 1)) := by
  unfold Hh.covs offS offL Hh.inn
  rw [Bool.eq_iff_iff]
  simp only [Bool.and_eq_true, Bool.or_eq_true, decide_eq_true_eq, Bool.not_eq_true', Bool.and_eq_false_iff, decide_eq_false_iff_not, bne_eq_false_iff_eq]
  constructor
  · rintro ⟨⟨⟨⟨⟨h1, h2⟩, h3⟩, h4⟩, h5⟩, h6⟩
    refine ⟨⟨⟨?_, ?_⟩, h3, by omega⟩, h5, by omega⟩
    · rcases h1 with h1 | h1
      · left; omega
      · right; exact h1
    · rcases h2 with h2 | h2
      · left; omega
      · right; exact h2
  · rintro ⟨⟨⟨h1, h2⟩, h3, h4⟩, h5, h6⟩
    refine ⟨⟨⟨⟨⟨?_, ?_⟩, h3⟩, by omega⟩, h5⟩, by omega⟩
    · rcases h1 with h1 | h1
      · left; omega
      · right; exact h1
    · rcases h2 with h2 | h2
      · left; omega
      · right; exact h2
def CvPost (h : Hh) (q : Hh.Qq) (w : World) (e : Ending) (w' : World) : Prop := e = .returned (.tuple #[.bool (Hh.cov h q), .int .i64 (Hh.covE h q)]) ∧ Below w.heap.size w w'
theorem CvPost.of {h : Hh} {q : Hh.Qq} {w w' : World} {b : Bool} {x : Int} (h1 : Hh.cov h q = b) (h2 : Hh.covE h q = x) (hb : Below w.heap.size w w') : CvPost h q w (.returned (.tuple #[.bool b, .int .i64 x])) w' := by
  subst h1 h2; exact ⟨rfl, hb⟩
set_option maxHeartbeats 4000000 in
theorem Covers_any (h : Hh) (q : Hh.Qq) (w : World) : Calls Try.prog 23 #[vH h, .int .i64 q.spk, .int .i64 q.beg, .int .i64 q.lang, .int .i64 q.at_] w (CvPost h q w) := by
  have HB0 := Lib.hid (BoxH.new w h)
  have HN := Lib.hid (al1 w (.cells #[.int .i64 h.no, .int .i64 h.kind, .int .i64 h.spk, .int .i64 h.fst, .int .i64 h.lst, .int .i64 h.lang, .int .i64 h.frm, .int .i64 h.unt, .int .i64 h.known, .int .i64 h.ms] 24))
  have hvv : vH h = vH h := rfl
  unfold vH
  clear hvv
  go_enter Try.func23, Try.ntmps23
  go_wp2_with (fail)
  cases hr : Hh.right h
  · refine (right_is hr _).mono ?_
    rintro e w1 ⟨rfl, hb1⟩
    go_wp2_with (fail)
    go_ret2
    exact .of (by simp [Hh.cov, hr]) (by simp [Hh.covE, hr]) (HN.out.trans (hb1.mono HN.out.size))
  refine (right_is hr _).mono ?_
  rintro e w1 ⟨rfl, hb1⟩
  have HRT := Lib.hid ((Hh.right_iff h).1 hr)
  have HB := Lib.hid (HB0.out.upb hb1)
  have HW := Lib.hid (HN.out.trans (hb1.mono HN.out.size))
  have HR := Lib.hid hr
  clear hb1 HB0 HN hr
  go_wp2_with (fail)
  cases a0 : Hh.inn q.spk 0 63
  · refine (within_is a0 _).mono ?_
    rintro e _ ⟨rfl, rfl⟩
    go_wp2_with (fail)
    go_ret2
    exact .of (by simp [Hh.cov, Hh.argQ, HR.out, a0]) (by simp [Hh.covE, Hh.argQ, HR.out, a0]) HW.out
  refine (within_is a0 _).mono ?_
  rintro e _ ⟨rfl, rfl⟩
  go_wp2_with (fail)
  cases a1 : Hh.inn q.beg 0 1099511627775
  · refine (within_is a1 _).mono ?_
    rintro e _ ⟨rfl, rfl⟩
    go_wp2_with (fail)
    go_ret2
    exact .of (by simp [Hh.cov, Hh.argQ, HR.out, a0, a1]) (by simp [Hh.covE, Hh.argQ, HR.out, a0, a1]) HW.out
  refine (within_is a1 _).mono ?_
  rintro e _ ⟨rfl, rfl⟩
  go_wp2_with (fail)
  cases a2 : Hh.inn q.lang 0 31
  · refine (within_is a2 _).mono ?_
    rintro e _ ⟨rfl, rfl⟩
    go_wp2_with (fail)
    go_ret2
    exact .of (by simp [Hh.cov, Hh.argQ, HR.out, a0, a1, a2]) (by simp [Hh.covE, Hh.argQ, HR.out, a0, a1, a2]) HW.out
  refine (within_is a2 _).mono ?_
  rintro e _ ⟨rfl, rfl⟩
  go_wp2_with (fail)
  cases a3 : Hh.inn q.at_ 0 1099511627775
  · refine (within_is a3 _).mono ?_
    rintro e _ ⟨rfl, rfl⟩
    go_wp2_with (fail)
    go_ret2
    exact .of (by simp [Hh.cov, Hh.argQ, HR.out, a0, a1, a2, a3]) (by simp [Hh.covE, Hh.argQ, HR.out, a0, a1, a2, a3]) HW.out
  refine (within_is a3 _).mono ?_
  rintro e _ ⟨rfl, rfl⟩
  have HA := Lib.hid (show Hh.argQ q = true by simp [Hh.argQ, a0, a1, a2, a3])
  have HC := Lib.hid (show Hh.cov h q = Hh.covs h q from Hh.cov_ok HR.out HA.out)
  have HE := Lib.hid (show Hh.covE h q = 0 by simp [Hh.covE, HR.out, HA.out])
  rw [covs_eq] at HC
  clear a0 a1 a2 a3
  have q2 := HB.out.c2
  have q3 := HB.out.c3
  have q4 := HB.out.c4
  have q5 := HB.out.c5
  have q6 := HB.out.c6
  have q7 := HB.out.c7
  have hf := HRT.out.fst
  have hm := HRT.out.frm
  have k1 : IntKind.i64.wrap (h.lst - 1) = h.lst - 1 := by rw [IntKind.wrap_i64]; omega
  have k2 : IntKind.i64.wrap (h.unt - 1) = h.unt - 1 := by rw [IntKind.wrap_i64]; omega
  clear hf hm
  by_cases s1 : 0 ≤ h.spk
  · have s1d : decide (0 ≤ h.spk) = true := decide_eq_true s1
    by_cases s2 : h.spk = q.spk
    · have s2d : (h.spk != q.spk) = false := by rw [bne_eq_false_iff_eq]; exact s2
      have NOS := Lib.hid (show offS h q = false by simp [offS, s2])
      clear s1 s2
      by_cases l1 : 0 ≤ h.lang
      · have l1d : decide (0 ≤ h.lang) = true := decide_eq_true l1
        by_cases l2 : h.lang = q.lang
        · have l2d : (h.lang != q.lang) = false := by rw [bne_eq_false_iff_eq]; exact l2
          have NOL := Lib.hid (show offL h q = false by simp [offL, l2])
          clear l1 l2
          cases b1 : Hh.inn q.beg h.fst (h.lst - 1)
          · go_wp2_with (fail)
            refine (within_is b1 _).mono ?_
            rintro e _ ⟨rfl, rfl⟩
            go_wp2_with (fail)
            go_ret2
            exact .of (by rw [HC.out, b1]; simp) HE.out HW.out
          · go_wp2_with (fail)
            refine (within_is b1 _).mono ?_
            rintro e _ ⟨rfl, rfl⟩
            go_wp2_with (fail)
            refine (within_any q.at_ h.frm (h.unt - 1) _).mono ?_
            rintro e _ ⟨rfl, rfl⟩
            go_wp2_with (fail)
            go_ret2
            exact .of (by rw [HC.out, b1, NOS.out, NOL.out]; simp) HE.out HW.out
        · have l2d : (h.lang != q.lang) = true := by rw [bne_iff_ne]; exact l2
          have OFF := Lib.hid (show offL h q = true by simp [offL, l1, l2])
          clear l1 l2
          go_wp2_with (fail)
          go_ret2
          exact .of (by rw [HC.out, OFF.out]; simp) HE.out HW.out
      · have l1d : decide (0 ≤ h.lang) = false := decide_eq_false l1
        have NOL := Lib.hid (show offL h q = false by simp [offL, l1d])
        clear l1
        cases b1 : Hh.inn q.beg h.fst (h.lst - 1)
        · go_wp2_with (fail)
          refine (within_is b1 _).mono ?_
          rintro e _ ⟨rfl, rfl⟩
          go_wp2_with (fail)
          go_ret2
          exact .of (by rw [HC.out, b1]; simp) HE.out HW.out
        · go_wp2_with (fail)
          refine (within_is b1 _).mono ?_
          rintro e _ ⟨rfl, rfl⟩
          go_wp2_with (fail)
          refine (within_any q.at_ h.frm (h.unt - 1) _).mono ?_
          rintro e _ ⟨rfl, rfl⟩
          go_wp2_with (fail)
          go_ret2
          exact .of (by rw [HC.out, b1, NOS.out, NOL.out]; simp) HE.out HW.out
    · have s2d : (h.spk != q.spk) = true := by rw [bne_iff_ne]; exact s2
      have OFF := Lib.hid (show offS h q = true by simp [offS, s1, s2])
      clear s1 s2
      go_wp2_with (fail)
      go_ret2
      exact .of (by rw [HC.out, OFF.out]; simp) HE.out HW.out
  · have s1d : decide (0 ≤ h.spk) = false := decide_eq_false s1
    have NOS := Lib.hid (show offS h q = false by simp [offS, s1d])
    clear s1
    by_cases l1 : 0 ≤ h.lang
    · have l1d : decide (0 ≤ h.lang) = true := decide_eq_true l1
      by_cases l2 : h.lang = q.lang
      · have l2d : (h.lang != q.lang) = false := by rw [bne_eq_false_iff_eq]; exact l2
        have NOL := Lib.hid (show offL h q = false by simp [offL, l2])
        clear l1 l2
        cases b1 : Hh.inn q.beg h.fst (h.lst - 1)
        · go_wp2_with (fail)
          refine (within_is b1 _).mono ?_
          rintro e _ ⟨rfl, rfl⟩
          go_wp2_with (fail)
          go_ret2
          exact .of (by rw [HC.out, b1]; simp) HE.out HW.out
        · go_wp2_with (fail)
          refine (within_is b1 _).mono ?_
          rintro e _ ⟨rfl, rfl⟩
          go_wp2_with (fail)
          refine (within_any q.at_ h.frm (h.unt - 1) _).mono ?_
          rintro e _ ⟨rfl, rfl⟩
          go_wp2_with (fail)
          go_ret2
          exact .of (by rw [HC.out, b1, NOS.out, NOL.out]; simp) HE.out HW.out
      · have l2d : (h.lang != q.lang) = true := by rw [bne_iff_ne]; exact l2
        have OFF := Lib.hid (show offL h q = true by simp [offL, l1, l2])
        clear l1 l2
        go_wp2_with (fail)
        go_ret2
        exact .of (by rw [HC.out, OFF.out]; simp) HE.out HW.out
    · have l1d : decide (0 ≤ h.lang) = false := decide_eq_false l1
      have NOL := Lib.hid (show offL h q = false by simp [offL, l1d])
      clear l1
      cases b1 : Hh.inn q.beg h.fst (h.lst - 1)
      · go_wp2_with (fail)
        refine (within_is b1 _).mono ?_
        rintro e _ ⟨rfl, rfl⟩
        go_wp2_with (fail)
        go_ret2
        exact .of (by rw [HC.out, b1]; simp) HE.out HW.out
      · go_wp2_with (fail)
        refine (within_is b1 _).mono ?_
        rintro e _ ⟨rfl, rfl⟩
        go_wp2_with (fail)
        refine (within_any q.at_ h.frm (h.unt - 1) _).mono ?_
        rintro e _ ⟨rfl, rfl⟩
        go_wp2_with (fail)
        go_ret2
        exact .of (by rw [HC.out, b1, NOS.out, NOL.out]; simp) HE.out HW.out
end Go.Proofs.Ytninnpcggeofmaa

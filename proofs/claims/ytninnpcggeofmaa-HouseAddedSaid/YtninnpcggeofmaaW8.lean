/- Walk of the reference's Verdict. -/
import Derived.Test.YtninnpcggeofmaaW7
namespace Go.Proofs.Ytninnpcggeofmaa
open Go.RowKit
set_option linter.unusedVariables false
set_option linter.unusedSimpArgs false

def VPost (d : Hh.Vd) (w : World) (e : Ending) (w' : World) : Prop := e = .returned (.tuple #[.int .i64 d.v, .int .i64 d.no, .int .i64 d.e]) ∧ Below w.heap.size w w'
theorem VPost.of {d : Hh.Vd} {a b c : Int} {w w' : World} (h : d = ⟨a, b, c⟩) (hb : Below w.heap.size w w') : VPost d w (.returned (.tuple #[.int .i64 a, .int .i64 b, .int .i64 c])) w' := by subst h; exact ⟨rfl, hb⟩
theorem refCheck_is {v : Value} {l : List Hh} {x : Int} {w : World} (hx : Hh.err l = x) (hv : IsHs w v l) (hl : l.length ≤ 9223372036854775807) : Calls Try.prog 21 #[v] w (IPost x w) := by subst hx; exact refCheck_any v l w hv hl
theorem Check_is {v : Value} {l : List Hh} {x : Int} {w : World} (hx : Hh.err l = x) (hv : IsHs w v l) (hl : l.length ≤ 9223372036854775807) : Calls Try.prog 20 #[v] w (IPost x w) := by subst hx; exact Check_any v l w hv hl
theorem err_zero {l : List Hh} (h : Hh.err l = 0) : l.length ≤ 1024 ∧ Hh.incr (-1) l = true := by
  unfold Hh.err at h
  split at h
  · cases h
  · split at h
    · rename_i h1 h2; exact ⟨by omega, h2⟩
    · cases h
theorem refLast_is {v : Value} {l : List Hh} {kind : Int} {x : Int} {w : World} (hx : Hh.lastN kind l = x) (hv : IsHs w v l) (hl : l.length ≤ 1024) : Calls Try.prog 59 #[v, .int .i64 kind] w fun e w' => e = .returned (.int .i64 x) ∧ w = w' := by
  subst hx; exact refLast_any v l kind w hv hl
theorem refFirst_is {v : Value} {l : List Hh} {kind above : Int} {x : Int} {w : World} (hx : Hh.firstN kind above l = x) (hv : IsHs w v l) (hl : l.length ≤ 1024) : Calls Try.prog 58 #[v, .int .i64 kind, .int .i64 above] w fun e w' => e = .returned (.int .i64 x) ∧ w = w' := by
  subst hx; exact refFirst_any v l kind above w hv hl
theorem refDelay_is {v : Value} {l : List Hh} {q : Hh.Qq} {x : Int} {w : World} (hx : Hh.delayN q l = x) (hv : IsHs w v l) (hl : l.length ≤ 1024) (hm : ∀ x ∈ l, 0 ≤ x.ms ∧ x.ms ≤ 1073741824) (hb : 0 ≤ q.beg ∧ q.beg ≤ 1099511627775) : Calls Try.prog 60 #[v, .int .i64 q.beg, .int .i64 q.at_] w fun e w' => e = .returned (.int .i64 x) ∧ w = w' := by
  subst hx; exact refDelay_any v l q w hv hl hm hb

set_option maxHeartbeats 4000000 in
set_option maxRecDepth 100000 in
theorem refVerdict_any (v : Value) (l : List Hh) (q : Hh.Qq) (w : World) (hv : IsHs w v l) (hl : l.length ≤ 9223372036854775807) : Calls Try.prog 31 #[v, .int .i64 q.spk, .int .i64 q.beg, .int .i64 q.lang, .int .i64 q.at_, .int .i64 q.known] w (VPost (Hh.ver l q) w) := by
  have HV := Lib.hid hv
  obtain ⟨A, cap, rfl, _⟩ := id hv
  clear hv
  go_enter Try.func31, Try.ntmps31
  go_wp2_with (fail)
  by_cases he : Hh.err l = 0
  rotate_left
  · obtain ⟨x, hx⟩ : ∃ x, Hh.err l = x := ⟨_, rfl⟩
    have hne : (x != 0) = true := by rw [← hx]; simpa using he
    have HX := Lib.hid (show Hh.ver l q = ⟨0, 0, x⟩ by rw [Hh.ver, if_neg he, hx])
    refine (refCheck_is hx HV.out hl).mono ?_
    rintro e w1 ⟨rfl, hb1⟩
    clear he hx
    go_wp2_with (fail)
    go_ret3
    exact .of HX.out hb1
  refine (refCheck_is he HV.out hl).mono ?_
  rintro e w1 ⟨rfl, hb1⟩
  have HB := Lib.hid hb1
  have HV1 := Lib.hid (HV.out.upb hb1)
  have HE := Lib.hid he
  have hlen := (err_zero he).1
  clear hb1 he HV
  go_wp2_with (fail)
  cases a0 : Hh.inn q.spk 0 63
  · refine (refSpeaker_is a0 _).mono ?_
    rintro e _ ⟨rfl, rfl⟩
    go_wp2_with (fail)
    go_ret3
    exact .of (by simp [Hh.ver, Hh.askQ, Hh.argQ, HE.out, a0]) HB.out
  refine (refSpeaker_is a0 _).mono ?_
  rintro e _ ⟨rfl, rfl⟩
  go_wp2_with (fail)
  cases a1 : Hh.inn q.beg 0 1099511627775
  · refine (refTime_is a1 _).mono ?_
    rintro e _ ⟨rfl, rfl⟩
    go_wp2_with (fail)
    go_ret3
    exact .of (by simp [Hh.ver, Hh.askQ, Hh.argQ, HE.out, a0, a1]) HB.out
  refine (refTime_is a1 _).mono ?_
  rintro e _ ⟨rfl, rfl⟩
  go_wp2_with (fail)
  cases a2 : Hh.inn q.lang 0 31
  · refine (refLanguage_is a2 _).mono ?_
    rintro e _ ⟨rfl, rfl⟩
    go_wp2_with (fail)
    go_ret3
    exact .of (by simp [Hh.ver, Hh.askQ, Hh.argQ, HE.out, a0, a1, a2]) HB.out
  refine (refLanguage_is a2 _).mono ?_
  rintro e _ ⟨rfl, rfl⟩
  go_wp2_with (fail)
  cases a3 : Hh.inn q.at_ 0 1099511627775
  · refine (refTime_is a3 _).mono ?_
    rintro e _ ⟨rfl, rfl⟩
    go_wp2_with (fail)
    go_ret3
    exact .of (by simp [Hh.ver, Hh.askQ, Hh.argQ, HE.out, a0, a1, a2, a3]) HB.out
  refine (refTime_is a3 _).mono ?_
  rintro e _ ⟨rfl, rfl⟩
  go_wp2_with (fail)
  cases a4 : Hh.inn q.known 0 1099511627775
  · refine (refTime_is a4 _).mono ?_
    rintro e _ ⟨rfl, rfl⟩
    go_wp2_with (fail)
    go_ret3
    exact .of (by simp [Hh.ver, Hh.askQ, Hh.argQ, HE.out, a0, a1, a2, a3, a4]) HB.out
  refine (refTime_is a4 _).mono ?_
  rintro e _ ⟨rfl, rfl⟩
  go_wp2_with (fail)
  have HVer := Lib.hid (show Hh.ver l q = Hh.verB (Hh.bnd l q) q by simp [Hh.ver, Hh.askQ, Hh.argQ, HE.out, a0, a1, a2, a3, a4])
  have hbeg := inn_t a1
  clear a0 a1 a2 a3 a4
  refine (refBinding_any _ l q _ HV1.out hlen).mono ?_
  rintro e w2 ⟨vb, rfl, hown, hb2⟩
  have HH := Lib.hid hown.hs
  obtain ⟨Ab, cb, rfl⟩ := ownH_slice hown
  have HB2 := Lib.hid (HB.out.up hb2)
  have hbl : (Hh.bnd l q).length ≤ 1024 := Nat.le_trans (List.length_filter_le _ _) hlen
  have HMS := Lib.hid (show ∀ x ∈ Hh.bnd l q, 0 ≤ x.ms ∧ x.ms ≤ 1073741824 from fun x hx => Hh.right_ms ((Hh.right_iff x).1 (Hh.bnd_right hx)))
  clear hown hb2 HB HV1
  generalize hbb : Hh.bnd l q = bl at *
  clear hbb
  unfold Hh.verB at HVer
  obtain ⟨la, hla⟩ : ∃ x, Hh.lastN 5 bl = x := ⟨_, rfl⟩
  obtain ⟨s, hs⟩ : ∃ x, Hh.firstN 1 la bl = x := ⟨_, rfl⟩
  obtain ⟨pl, hpl⟩ : ∃ x, Hh.firstN 2 (-1) bl = x := ⟨_, rfl⟩
  obtain ⟨lq, hlq⟩ : ∃ x, Hh.lastN 4 bl = x := ⟨_, rfl⟩
  obtain ⟨dl, hdl⟩ : ∃ x, Hh.delayN q bl = x := ⟨_, rfl⟩
  rw [hla, hs, hpl, hlq, hdl] at HVer
  have HLA := Lib.hid hla
  have HS := Lib.hid hs
  have HPL := Lib.hid hpl
  have HLQ := Lib.hid hlq
  have HDL := Lib.hid hdl
  clear hla hs hpl hlq hdl
  go_wp2_with (fail)
  refine (refLast_is HLA.out HH.out hbl).mono ?_
  rintro e _ ⟨rfl, rfl⟩
  go_wp2_with (fail)
  refine (refFirst_is HS.out HH.out hbl).mono ?_
  rintro e _ ⟨rfl, rfl⟩
  by_cases h1 : 0 ≤ s
  · have h1d : decide (0 ≤ s) = true := decide_eq_true h1
    have HVV := Lib.hid (show Hh.ver l q = ⟨2, s, 0⟩ by rw [HVer.out, if_pos h1])
    clear h1
    go_wp2_with (fail)
    go_ret3
    exact .of HVV.out HB2.out
  have h1d : decide (0 ≤ s) = false := decide_eq_false h1
  have HV2 := Lib.hid (HVer.out.trans (if_neg h1))
  clear h1 HVer
  go_wp2_with (fail)
  refine (refFirst_is HPL.out HH.out hbl).mono ?_
  rintro e _ ⟨rfl, rfl⟩
  by_cases h3 : 0 ≤ pl
  · have h3d : decide (0 ≤ pl) = true := decide_eq_true h3
    go_wp2_with (fail)
    refine (refLast_is HLQ.out HH.out hbl).mono ?_
    rintro e _ ⟨rfl, rfl⟩
    by_cases h4 : lq < 0
    · have h4d : decide (lq < 0) = true := decide_eq_true h4
      have HVV := Lib.hid (HV2.out.trans (if_pos ⟨h3, h4⟩))
      clear h3 h4 HV2
      go_wp2_with (fail)
      go_ret3
      exact .of HVV.out HB2.out
    · have h4d : decide (lq < 0) = false := decide_eq_false h4
      have HV3 := Lib.hid (HV2.out.trans (if_neg (fun h => h4 h.2)))
      clear HV2
      go_wp2_with (fail)
      refine (refDelay_is HDL.out HH.out hbl HMS.out hbeg).mono ?_
      rintro e _ ⟨rfl, rfl⟩
      by_cases h5 : 0 ≤ dl
      · have h5d : decide (0 ≤ dl) = true := decide_eq_true h5
        have HVV := Lib.hid (HV3.out.trans (if_pos h5))
        clear h5 HV3
        go_wp2_with (fail)
        go_ret3
        exact .of HVV.out HB2.out
      · have h5d : decide (0 ≤ dl) = false := decide_eq_false h5
        have HVV := Lib.hid (HV3.out.trans (if_neg h5))
        clear h5 HV3
        go_wp2_with (fail)
        go_ret3
        exact .of HVV.out HB2.out
  · have h3d : decide (0 ≤ pl) = false := decide_eq_false h3
    have HV3 := Lib.hid (HV2.out.trans (if_neg (fun h => h3 h.1)))
    clear HV2
    go_wp2_with (fail)
    refine (refDelay_is HDL.out HH.out hbl HMS.out hbeg).mono ?_
    rintro e _ ⟨rfl, rfl⟩
    by_cases h5 : 0 ≤ dl
    · have h5d : decide (0 ≤ dl) = true := decide_eq_true h5
      have HVV := Lib.hid (HV3.out.trans (if_pos h5))
      clear h5 HV3
      go_wp2_with (fail)
      go_ret3
      exact .of HVV.out HB2.out
    · have h5d : decide (0 ≤ dl) = false := decide_eq_false h5
      have HVV := Lib.hid (HV3.out.trans (if_neg h5))
      clear h5 HV3
      go_wp2_with (fail)
      go_ret3
      exact .of HVV.out HB2.out

end Go.Proofs.Ytninnpcggeofmaa

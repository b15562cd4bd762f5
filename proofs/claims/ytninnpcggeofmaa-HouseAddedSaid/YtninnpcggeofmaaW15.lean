/- Walks of the statements' own functions of layer 36; the statement VerdictsSpec. -/
import Derived.Test.YtninnpcggeofmaaW14
namespace Go.Proofs.Ytninnpcggeofmaa
open Go.RowKit
set_option linter.unusedVariables false
set_option linter.unusedSimpArgs false
attribute [local go_sem] frozen_new

def askV (q : Hh.Qq) : Value := .agg #[.int .i64 q.spk, .int .i64 q.beg, .int .i64 q.lang, .int .i64 q.at_, .int .i64 q.known]
def BoxA (W : World) (B : Nat) (q : Hh.Qq) : Prop := W.heap[B]? = some (.cells #[.int .i64 q.spk, .int .i64 q.beg, .int .i64 q.lang, .int .i64 q.at_, .int .i64 q.known] 48 (0, 0))
theorem BoxA.new (W : World) (q : Hh.Qq) : BoxA (W.alloc (.cells #[.int .i64 q.spk, .int .i64 q.beg, .int .i64 q.lang, .int .i64 q.at_, .int .i64 q.known] 48)) W.heap.size q := World.alloc_heap_new W _
theorem BoxA.upb {W W' : World} {B : Nat} {q : Hh.Qq} (hb : BoxA W B q) (hk : Below W.heap.size W W') : BoxA W' B q := (hk.block B (Array.getElem?_eq_some_iff.1 hb).1).trans hb
theorem BoxA.c0 {W : World} {B : Nat} {q : Hh.Qq} (hb : BoxA W B q) : W.cell? ⟨B, 0, none⟩ = some (.int .i64 q.spk) := by simp [World.cell?, show W.heap[B]? = _ from hb]
theorem BoxA.c1 {W : World} {B : Nat} {q : Hh.Qq} (hb : BoxA W B q) : W.cell? ⟨B, 1, none⟩ = some (.int .i64 q.beg) := by simp [World.cell?, show W.heap[B]? = _ from hb]
theorem BoxA.c2 {W : World} {B : Nat} {q : Hh.Qq} (hb : BoxA W B q) : W.cell? ⟨B, 2, none⟩ = some (.int .i64 q.lang) := by simp [World.cell?, show W.heap[B]? = _ from hb]
theorem BoxA.c3 {W : World} {B : Nat} {q : Hh.Qq} (hb : BoxA W B q) : W.cell? ⟨B, 3, none⟩ = some (.int .i64 q.at_) := by simp [World.cell?, show W.heap[B]? = _ from hb]
theorem BoxA.c4 {W : World} {B : Nat} {q : Hh.Qq} (hb : BoxA W B q) : W.cell? ⟨B, 4, none⟩ = some (.int .i64 q.known) := by simp [World.cell?, show W.heap[B]? = _ from hb]

def rgB (l : List Hh) (q : Hh.Qq) : Bool := decide (l.length ≤ 30) && decide (Hh.err l = 0) && Hh.askQ q
theorem rgB_t {l : List Hh} {q : Hh.Qq} (h : rgB l q = true) : l.length ≤ 30 ∧ Hh.err l = 0 ∧ Hh.askQ q = true ∧ Hh.argQ q = true ∧ Hh.incr (-1) l = true := by
  simp only [rgB, Bool.and_eq_true, decide_eq_true_eq] at h
  refine ⟨h.1.1, h.1.2, h.2, ?_, (err_zero h.1.2).2⟩
  have := h.2
  simp only [Hh.askQ, Bool.and_eq_true] at this
  exact this.1
set_option maxHeartbeats 4000000 in
theorem right36_any (v : Value) (l : List Hh) (q : Hh.Qq) (w : World) (hv : IsHs w v l) (hl : l.length ≤ 9223372036854775807) : Calls Try.prog 32 #[v, askV q] w (BPost (rgB l q) w) := by
  have HV := Lib.hid hv
  have HA0 := Lib.hid (BoxA.new w q)
  have HB0 := Lib.hid (al1 w (.cells #[.int .i64 q.spk, .int .i64 q.beg, .int .i64 q.lang, .int .i64 q.at_, .int .i64 q.known] 48))
  obtain ⟨A, cap, rfl, _⟩ := id hv
  clear hv
  have haa : askV q = askV q := rfl
  unfold askV
  clear haa
  by_cases h30 : l.length ≤ 30
  rotate_left
  · have hd : decide ((l.length : Int) ≤ 30) = false := by rw [decide_eq_false_iff_not]; omega
    go_enter Try.func32, Try.ntmps32
    go_wp2_with (fail)
    go_ret
    exact ⟨ret_bool (by simp [rgB, h30]), HB0.out⟩
  have hd : decide ((l.length : Int) ≤ 30) = true := by rw [decide_eq_true_eq]; omega
  go_enter Try.func32, Try.ntmps32
  go_wp2_with (fail)
  by_cases he : Hh.err l = 0
  rotate_left
  · obtain ⟨x, hx⟩ : ∃ x, Hh.err l = x := ⟨_, rfl⟩
    have hne : (x == 0) = false := by rw [← hx]; simpa using he
    refine (refCheck_is hx (HV.out.upb HB0.out) hl).mono ?_
    rintro e w1 ⟨rfl, hb1⟩
    go_wp2_with (fail)
    go_ret
    exact ⟨ret_bool (by simp [rgB, he]), HB0.out.up hb1⟩
  refine (refCheck_is he (HV.out.upb HB0.out) hl).mono ?_
  rintro e w1 ⟨rfl, hb1⟩
  have HB := Lib.hid (HB0.out.up hb1)
  have HA := Lib.hid (HA0.out.upb hb1)
  have HE := Lib.hid he
  have HL := Lib.hid h30
  clear hb1 he HB0 HA0 h30
  have q0 := HA.out.c0
  have q1 := HA.out.c1
  have q2 := HA.out.c2
  have q3 := HA.out.c3
  have q4 := HA.out.c4
  go_wp2_with (fail)
  cases a0 : Hh.inn q.spk 0 63
  · refine (refSpeaker_is a0 _).mono ?_
    rintro e _ ⟨rfl, rfl⟩
    go_wp2_with (fail)
    go_ret
    exact ⟨ret_bool (by simp [rgB, Hh.askQ, Hh.argQ, a0]), HB.out⟩
  refine (refSpeaker_is a0 _).mono ?_
  rintro e _ ⟨rfl, rfl⟩
  go_wp2_with (fail)
  cases a1 : Hh.inn q.beg 0 1099511627775
  · refine (refTime_is a1 _).mono ?_
    rintro e _ ⟨rfl, rfl⟩
    go_wp2_with (fail)
    go_ret
    exact ⟨ret_bool (by simp [rgB, Hh.askQ, Hh.argQ, a0, a1]), HB.out⟩
  refine (refTime_is a1 _).mono ?_
  rintro e _ ⟨rfl, rfl⟩
  go_wp2_with (fail)
  cases a2 : Hh.inn q.lang 0 31
  · refine (refLanguage_is a2 _).mono ?_
    rintro e _ ⟨rfl, rfl⟩
    go_wp2_with (fail)
    go_ret
    exact ⟨ret_bool (by simp [rgB, Hh.askQ, Hh.argQ, a0, a1, a2]), HB.out⟩
  refine (refLanguage_is a2 _).mono ?_
  rintro e _ ⟨rfl, rfl⟩
  go_wp2_with (fail)
  cases a3 : Hh.inn q.at_ 0 1099511627775
  · refine (refTime_is a3 _).mono ?_
    rintro e _ ⟨rfl, rfl⟩
    go_wp2_with (fail)
    go_ret
    exact ⟨ret_bool (by simp [rgB, Hh.askQ, Hh.argQ, a0, a1, a2, a3]), HB.out⟩
  refine (refTime_is a3 _).mono ?_
  rintro e _ ⟨rfl, rfl⟩
  go_wp2_with (fail)
  cases a4 : Hh.inn q.known 0 1099511627775
  · refine (refTime_is a4 _).mono ?_
    rintro e _ ⟨rfl, rfl⟩
    go_wp2_with (fail)
    go_ret
    exact ⟨ret_bool (by simp [rgB, Hh.askQ, Hh.argQ, a0, a1, a2, a3, a4]), HB.out⟩
  refine (refTime_is a4 _).mono ?_
  rintro e _ ⟨rfl, rfl⟩
  go_wp2_with (fail)
  go_ret
  exact ⟨ret_bool (by simp [rgB, Hh.askQ, Hh.argQ, HE.out, HL.out, a0, a1, a2, a3, a4]), HB.out⟩
theorem right36_is {v : Value} {l : List Hh} {q : Hh.Qq} {b : Bool} {w : World} (h : rgB l q = b) (hv : IsHs w v l) (hl : l.length ≤ 9223372036854775807) : Calls Try.prog 32 #[v, askV q] w (BPost b w) := by subst h; exact right36_any v l q w hv hl

theorem verdict36_any (v : Value) (l : List Hh) (q : Hh.Qq) (w : World) (hv : IsHs w v l) (hl : l.length ≤ 9223372036854775807) {a b : Int} (hx : (Hh.ver l q).v = a ∧ (Hh.ver l q).no = b ∧ (Hh.ver l q).e = 0) : Calls Try.prog 33 #[v, askV q] w fun e w' => e = .returned (.tuple #[.int .i64 a, .int .i64 b, .bool true]) ∧ Below w.heap.size w w' := by
  have HA0 := BoxA.new w q
  have HB0 := Lib.hid (al1 w (.cells #[.int .i64 q.spk, .int .i64 q.beg, .int .i64 q.lang, .int .i64 q.at_, .int .i64 q.known] 48))
  have q0 := HA0.c0
  have q1 := HA0.c1
  have q2 := HA0.c2
  have q3 := HA0.c3
  have q4 := HA0.c4
  have HC := Lib.hid (fun W hv => Verdict_is (l := l) (q := q) v W hx hv hl)
  have HV := Lib.hid hv
  obtain ⟨A, cap, rfl, _⟩ := id hv
  unfold askV
  clear hv HA0 hx
  go_enter Try.func33, Try.ntmps33
  go_wp2_with (fail)
  refine (HC.out _ (HV.out.upb HB0.out)).mono ?_
  rintro e w1 ⟨rfl, hb1⟩
  clear q0 q1 q2 q3 q4
  go_wp2_with (fail)
  go_ret3
  exact ⟨rfl, HB0.out.up hb1⟩
set_option maxHeartbeats 2000000 in
theorem binds36_any (h : Hh) (q : Hh.Qq) (w : World) (hr : Hh.right h = true) (hq : Hh.argQ q = true) : Calls Try.prog 34 #[vH h, askV q] w fun e w' => e = .returned (.tuple #[.bool (Hh.binds q h), .bool true]) ∧ Below w.heap.size w w' := by
  have HH0 := BoxH.new w h
  have HA0 := BoxA.new (w.alloc (.cells #[.int .i64 h.no, .int .i64 h.kind, .int .i64 h.spk, .int .i64 h.fst, .int .i64 h.lst, .int .i64 h.lang, .int .i64 h.frm, .int .i64 h.unt, .int .i64 h.known, .int .i64 h.ms] 24)) q
  simp only [World.size_alloc] at HA0
  have HB0 := Lib.hid ((al1 w (.cells #[.int .i64 h.no, .int .i64 h.kind, .int .i64 h.spk, .int .i64 h.fst, .int .i64 h.lst, .int .i64 h.lang, .int .i64 h.frm, .int .i64 h.unt, .int .i64 h.known, .int .i64 h.ms] 24)).up (al1 _ (.cells #[.int .i64 q.spk, .int .i64 q.beg, .int .i64 q.lang, .int .i64 q.at_, .int .i64 q.known] 48)))
  have HH := Lib.hid (HH0.upb (al1 _ (.cells #[.int .i64 q.spk, .int .i64 q.beg, .int .i64 q.lang, .int .i64 q.at_, .int .i64 q.known] 48)))
  have HA := Lib.hid HA0
  have he : Hh.covE h q = 0 := by simp [Hh.covE, hr, hq]
  have HBI := Lib.hid (show Hh.binds q h = (Hh.cov h q && decide (h.known ≤ q.known)) from rfl)
  have HC := Lib.hid (fun (b : Bool) (hb : Hh.cov h q = b) W => Covers_is hb he W)
  have hvv : vH h = vH h := rfl
  unfold vH askV
  clear hvv HH0 HA0 he
  go_enter Try.func34, Try.ntmps34
  go_wp2_with (fail)
  cases hc : Hh.cov h q
  · refine (HC.out false hc _).mono ?_
    rintro e w1 ⟨rfl, hb1⟩
    go_wp2_with (fail)
    go_ret2
    exact ⟨by rw [HBI.out, hc]; rfl, HB0.out.up hb1⟩
  · refine (HC.out true hc _).mono ?_
    rintro e w1 ⟨rfl, hb1⟩
    have q8 := (HH.out.upb hb1).c8
    have k4 := (HA.out.upb hb1).c4
    have HB1 := Lib.hid (HB0.out.up hb1)
    clear hb1
    cases hn : decide (h.known ≤ q.known)
    · go_wp2_with (fail)
      go_ret2
      exact ⟨by rw [HBI.out, hc, hn]; rfl, HB1.out⟩
    · go_wp2_with (fail)
      go_ret2
      exact ⟨by rw [HBI.out, hc, hn]; rfl, HB1.out⟩

set_option maxHeartbeats 2000000 in
theorem VerdictsSpec_any (v : Value) (l : List Hh) (q : Hh.Qq) (w : World) (hv : IsHs w v l) (hl : l.length ≤ 9223372036854775807) : Calls Try.prog 8 #[v, .int .i64 q.spk, .int .i64 q.beg, .int .i64 q.lang, .int .i64 q.at_, .int .i64 q.known] w fun e w' => e = .returned (.bool true) ∧ Below w.heap.size w w' := by
  have HV := Lib.hid hv
  obtain ⟨A, cap, rfl, _⟩ := id hv
  clear hv
  obtain ⟨a, ha⟩ : ∃ a, (Hh.ver l q).v = a := ⟨_, rfl⟩
  obtain ⟨b, hb⟩ : ∃ b, (Hh.ver l q).no = b := ⟨_, rfl⟩
  obtain ⟨c, hc⟩ : ∃ c, (Hh.ver l q).e = c := ⟨_, rfl⟩
  have HX := Lib.hid (show (Hh.ver l q).v = a ∧ (Hh.ver l q).no = b ∧ (Hh.ver l q).e = c from ⟨ha, hb, hc⟩)
  have ha2 : (a == a) = true := by simp
  have hb2 : (b == b) = true := by simp
  have hc2 : (c == c) = true := by simp
  clear ha hb hc
  go_enter Try.func8, Try.ntmps8
  go_wp2_with (fail)
  refine (sane36_any _).mono ?_
  rintro e w1 ⟨rfl, b1⟩
  have B1 := Lib.hid b1
  clear b1
  go_wp2_with (fail)
  cases hf : fewB l.length
  · refine (few_any _ l _ (HV.out.upb B1.out) hl).mono ?_
    rintro e _ ⟨rfl, rfl⟩
    rw [hf]
    go_wp2_with (fail)
    go_ret
    exact ⟨rfl, B1.out⟩
  · refine (few_any _ l _ (HV.out.upb B1.out) hl).mono ?_
    rintro e _ ⟨rfl, rfl⟩
    rw [hf]
    clear hf
    go_wp2_with (fail)
    refine (Verdict_is _ _ HX.out (HV.out.upb B1.out) hl).mono ?_
    rintro e w2 ⟨rfl, b2⟩
    have B2 := Lib.hid (B1.out.up b2)
    clear b2 B1
    go_wp2_with (fail)
    refine (refVerdict_any _ l q _ (HV.out.upb B2.out) hl).mono ?_
    rintro e w3 ⟨he3, b3⟩
    have B3 := Lib.hid (B2.out.up b3)
    rw [HX.out.1, HX.out.2.1, HX.out.2.2] at he3
    subst he3
    clear b3 B2
    go_wp2_with (fail)
    go_ret
    exact ⟨rfl, B3.out⟩

end Go.Proofs.Ytninnpcggeofmaa

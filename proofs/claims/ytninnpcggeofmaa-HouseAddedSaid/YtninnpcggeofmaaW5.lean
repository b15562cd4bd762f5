/- Slices of decisions in memory; walks of the reference's Covers and Few. -/
import Derived.Test.YtninnpcggeofmaaW4
namespace Go.Proofs.Ytninnpcggeofmaa
open Go.RowKit
set_option linter.unusedVariables false
set_option linter.unusedSimpArgs false

def encH (h : Hh) : List Value := [.int .i64 h.no, .int .i64 h.kind, .int .i64 h.spk, .int .i64 h.fst, .int .i64 h.lst, .int .i64 h.lang, .int .i64 h.frm, .int .i64 h.unt, .int .i64 h.known, .int .i64 h.ms]
def IsHs (w : World) (v : Value) (l : List Hh) : Prop := ∃ A c, v = .slice A l.length c ∧ RowAt w A (l.flatMap encH)
theorem IsHs.below {w w' : World} {v : Value} {l : List Hh} (h : IsHs w v l) (hb : Below w.heap.size w w') : IsHs w' v l := by
  obtain ⟨A, c, e, hr⟩ := h
  exact ⟨A, c, e, hr.below hb⟩
theorem IsHs.upb {w w' : World} {v : Value} {l : List Hh} (h : IsHs w v l) (hb : Below w.heap.size w w') : IsHs w' v l := h.below hb
theorem IsHs.drewN {w : World} {v : Value} {l : List Hh} (h : IsHs w v l) (n : Nat) : IsHs (w.drewN n) v l := h
theorem IsHs.nil {w : World} : IsHs w (.slice none 0 0) [] := ⟨none, 0, rfl, RowAt.nil⟩
theorem flatH_len (l : List Hh) : (l.flatMap encH).length = 10 * l.length := by
  induction l with
  | nil => rfl
  | cons a l ih => simp only [List.flatMap_cons, List.length_append, ih, encH, List.length_cons, List.length_nil]; omega
theorem flatH_at (l : List Hh) (k i : Nat) (h : k < l.length) (hi : i < 10) : (l.flatMap encH)[k * 10 + i]? = (encH l[k])[i]? := by
  induction l generalizing k with
  | nil => simp at h
  | cons a l ih =>
    cases k with
    | zero => rw [List.flatMap_cons, List.getElem?_append_left (by simp [encH]; omega)]; simp
    | succ k =>
      rw [List.flatMap_cons, List.getElem?_append_right (by simp [encH]; omega)]
      have := ih k (by simpa using h)
      rw [show (k + 1) * 10 + i - (encH a).length = k * 10 + i by simp [encH]; omega, this]
      simp
/-- the k-th decision of a slice lies at a -/
structure HAt (w : World) (b o : Nat) (h : Hh) : Prop where
  lt : b < w.heap.size
  c0 : w.cell? ⟨b, o, none⟩ = some (.int .i64 h.no)
  c1 : w.cell? ⟨b, o + 1, none⟩ = some (.int .i64 h.kind)
  c2 : w.cell? ⟨b, o + 2, none⟩ = some (.int .i64 h.spk)
  c3 : w.cell? ⟨b, o + 3, none⟩ = some (.int .i64 h.fst)
  c4 : w.cell? ⟨b, o + 4, none⟩ = some (.int .i64 h.lst)
  c5 : w.cell? ⟨b, o + 5, none⟩ = some (.int .i64 h.lang)
  c6 : w.cell? ⟨b, o + 6, none⟩ = some (.int .i64 h.frm)
  c7 : w.cell? ⟨b, o + 7, none⟩ = some (.int .i64 h.unt)
  c8 : w.cell? ⟨b, o + 8, none⟩ = some (.int .i64 h.known)
  c9 : w.cell? ⟨b, o + 9, none⟩ = some (.int .i64 h.ms)
theorem hs_at {w : World} {A : Option Addr} {l : List Hh} (h : RowAt w A (l.flatMap encH)) {k : Nat} (hk : k < l.length) :
    ∃ b off, A = some ⟨b, off, none⟩ ∧ HAt w b (off + k * 10) l[k] := by
  have hl := flatH_len l
  obtain ⟨b, off, e, hb, hc⟩ := h (by intro h0; rw [h0] at hl; simp at hl; omega)
  have key : ∀ i v, i < 10 → (encH l[k])[i]? = some v → w.cell? ⟨b, off + k * 10 + i, none⟩ = some v := fun i v hi hv => by
    have := hc (k * 10 + i) (by omega)
    rw [← Nat.add_assoc] at this
    rw [this, ← List.getElem?_eq_getElem, flatH_at l k i hk hi, hv]
  exact ⟨b, off, e, hb, key 0 _ (by omega) rfl, key 1 _ (by omega) rfl, key 2 _ (by omega) rfl, key 3 _ (by omega) rfl, key 4 _ (by omega) rfl, key 5 _ (by omega) rfl, key 6 _ (by omega) rfl, key 7 _ (by omega) rfl, key 8 _ (by omega) rfl, key 9 _ (by omega) rfl⟩
theorem HAt.below {w w' : World} {b o : Nat} {h : Hh} (hh : HAt w b o h) (hb : Below w.heap.size w w') : HAt w' b o h := by
  have k : ∀ i, w'.cell? ⟨b, i, none⟩ = w.cell? ⟨b, i, none⟩ := fun i => hb.cell (p := ⟨b, i, none⟩) hh.lt
  exact ⟨Nat.lt_of_lt_of_le hh.lt hb.size, (k _).trans hh.c0, (k _).trans hh.c1, (k _).trans hh.c2, (k _).trans hh.c3, (k _).trans hh.c4, (k _).trans hh.c5, (k _).trans hh.c6, (k _).trans hh.c7, (k _).trans hh.c8, (k _).trans hh.c9⟩

def fewB (n : Nat) : Bool := decide (n ≤ 30) || decide (1024 < n) && decide (n ≤ 1100)
theorem few_any (v : Value) (l : List Hh) (w : World) (hv : IsHs w v l) (hl : l.length ≤ 9223372036854775807) : Calls Try.prog 15 #[v] w fun e w' => e = .returned (.bool (fewB l.length)) ∧ w = w' := by
  obtain ⟨A, c, rfl, _⟩ := hv
  unfold fewB
  generalize l.length = n at *
  by_cases h1 : n ≤ 30
  · have d1 : decide ((n : Int) ≤ 30) = true := by rw [decide_eq_true_eq]; omega
    go_enter Try.func15, Try.ntmps15
    go_wp2
    go_ret
    exact ⟨ret_bool (by simp [h1]), rfl⟩
  · have d1 : decide ((n : Int) ≤ 30) = false := by rw [decide_eq_false_iff_not]; omega
    by_cases h2 : 1024 < n
    · have d2 : decide ((1024 : Int) < (n : Int)) = true := by rw [decide_eq_true_eq]; omega
      by_cases h3 : n ≤ 1100
      · have d3 : decide ((n : Int) ≤ 1100) = true := by rw [decide_eq_true_eq]; omega
        go_enter Try.func15, Try.ntmps15
        go_wp2
        go_ret
        exact ⟨ret_bool (by simp [h1, h2, h3]), rfl⟩
      · have d3 : decide ((n : Int) ≤ 1100) = false := by rw [decide_eq_false_iff_not]; omega
        go_enter Try.func15, Try.ntmps15
        go_wp2
        go_ret
        exact ⟨ret_bool (by simp [h1, h2, h3]), rfl⟩
    · have d2 : decide ((1024 : Int) < (n : Int)) = false := by rw [decide_eq_false_iff_not]; omega
      go_enter Try.func15, Try.ntmps15
      go_wp2
      go_ret
      exact ⟨ret_bool (by simp [h1, h2]), rfl⟩

theorem refRight_is {h : Hh} {b : Bool} (hr : Hh.right h = b) (w : World) : Calls Try.prog 25 #[vH h] w (BPost b w) := by
  subst hr; exact refRight_any h w
theorem refAbout_is {h : Hh} {q : Hh.Qq} {b : Bool} (hr : Hh.Rt h) (ha : absS h q = b) (w : World) : Calls Try.prog 46 #[vH h, .int .i64 q.spk, .int .i64 q.beg, .int .i64 q.lang] w (BPost b w) := by
  subst ha; exact refAbout_any h q hr w
set_option maxHeartbeats 4000000 in
theorem refCovers_any (h : Hh) (q : Hh.Qq) (w : World) : Calls Try.prog 24 #[vH h, .int .i64 q.spk, .int .i64 q.beg, .int .i64 q.lang, .int .i64 q.at_] w (CvPost h q w) := by
  have HB0 := Lib.hid (BoxH.new w h)
  have HN := Lib.hid (al1 w (.cells #[.int .i64 h.no, .int .i64 h.kind, .int .i64 h.spk, .int .i64 h.fst, .int .i64 h.lst, .int .i64 h.lang, .int .i64 h.frm, .int .i64 h.unt, .int .i64 h.known, .int .i64 h.ms] 24))
  have hvv : vH h = vH h := rfl
  unfold vH
  clear hvv
  go_enter Try.func24, Try.ntmps24
  go_wp2_with (fail)
  cases hr : Hh.right h
  · refine (refRight_is hr _).mono ?_
    rintro e w1 ⟨rfl, hb1⟩
    go_wp2_with (fail)
    go_ret2
    exact .of (by simp [Hh.cov, hr]) (by simp [Hh.covE, hr]) (HN.out.trans (hb1.mono HN.out.size))
  refine (refRight_is hr _).mono ?_
  rintro e w1 ⟨rfl, hb1⟩
  have HRT := Lib.hid ((Hh.right_iff h).1 hr)
  have HB := Lib.hid (HB0.out.upb hb1)
  have HW := Lib.hid (HN.out.trans (hb1.mono HN.out.size))
  have HR := Lib.hid hr
  clear hb1 HB0 HN hr
  go_wp2_with (fail)
  cases a0 : Hh.inn q.spk 0 63
  · refine (refSpeaker_is a0 _).mono ?_
    rintro e _ ⟨rfl, rfl⟩
    go_wp2_with (fail)
    go_ret2
    exact .of (by simp [Hh.cov, Hh.argQ, HR.out, a0]) (by simp [Hh.covE, Hh.argQ, HR.out, a0]) HW.out
  refine (refSpeaker_is a0 _).mono ?_
  rintro e _ ⟨rfl, rfl⟩
  go_wp2_with (fail)
  cases a1 : Hh.inn q.beg 0 1099511627775
  · refine (refTime_is a1 _).mono ?_
    rintro e _ ⟨rfl, rfl⟩
    go_wp2_with (fail)
    go_ret2
    exact .of (by simp [Hh.cov, Hh.argQ, HR.out, a0, a1]) (by simp [Hh.covE, Hh.argQ, HR.out, a0, a1]) HW.out
  refine (refTime_is a1 _).mono ?_
  rintro e _ ⟨rfl, rfl⟩
  go_wp2_with (fail)
  cases a2 : Hh.inn q.lang 0 31
  · refine (refLanguage_is a2 _).mono ?_
    rintro e _ ⟨rfl, rfl⟩
    go_wp2_with (fail)
    go_ret2
    exact .of (by simp [Hh.cov, Hh.argQ, HR.out, a0, a1, a2]) (by simp [Hh.covE, Hh.argQ, HR.out, a0, a1, a2]) HW.out
  refine (refLanguage_is a2 _).mono ?_
  rintro e _ ⟨rfl, rfl⟩
  go_wp2_with (fail)
  have q0 := HB.out.c0
  have q1 := HB.out.c1
  have q2 := HB.out.c2
  have q3 := HB.out.c3
  have q4 := HB.out.c4
  have q5 := HB.out.c5
  have q6 := HB.out.c6
  have q7 := HB.out.c7
  have q8 := HB.out.c8
  have q9 := HB.out.c9
  cases a3 : Hh.inn q.at_ 0 1099511627775
  · refine (refTime_is a3 _).mono ?_
    rintro e _ ⟨rfl, rfl⟩
    go_wp2_with (fail)
    go_ret2
    exact .of (by simp [Hh.cov, Hh.argQ, HR.out, a0, a1, a2, a3]) (by simp [Hh.covE, Hh.argQ, HR.out, a0, a1, a2, a3]) HW.out
  refine (refTime_is a3 _).mono ?_
  rintro e _ ⟨rfl, rfl⟩
  go_wp2_with (fail)
  have HA := Lib.hid (show Hh.argQ q = true by simp [Hh.argQ, a0, a1, a2, a3])
  have HC := Lib.hid (show Hh.cov h q = Hh.covs h q from Hh.cov_ok HR.out HA.out)
  have HE := Lib.hid (show Hh.covE h q = 0 by simp [Hh.covE, HR.out, HA.out])
  rw [covs_abs] at HC
  clear a0 a1 a2 a3 q0 q1 q2 q3 q4 q5 q6 q7 q8 q9
  cases hab : absS h q
  · refine (refAbout_is HRT.out hab _).mono ?_
    rintro e w2 ⟨rfl, hb2⟩
    go_wp2_with (fail)
    go_ret2
    exact .of (by rw [HC.out, hab]; simp) HE.out (HW.out.trans (hb2.mono HW.out.size))
  · refine (refAbout_is HRT.out hab _).mono ?_
    rintro e w2 ⟨rfl, hb2⟩
    have HB2 := Lib.hid (HB.out.upb hb2)
    have HW2 := Lib.hid (HW.out.trans (hb2.mono HW.out.size))
    clear hb2 HB HW
    have HC2 := Lib.hid (show Hh.cov h q = (decide (h.frm ≤ q.at_) && decide (q.at_ < h.unt)) by rw [HC.out, hab]; simp)
    clear hab
    have q6 := HB2.out.c6
    have q7 := HB2.out.c7
    cases f0 : decide (h.frm ≤ q.at_)
    · go_wp2_with (fail)
      go_ret2
      exact .of (by rw [HC2.out, f0]; simp) HE.out HW2.out
    · cases f1 : decide (q.at_ < h.unt)
      · go_wp2_with (fail)
        go_ret2
        exact .of (by rw [HC2.out, f0, f1]; simp) HE.out HW2.out
      · go_wp2_with (fail)
        go_ret2
        exact .of (by rw [HC2.out, f0, f1]; simp) HE.out HW2.out

end Go.Proofs.Ytninnpcggeofmaa

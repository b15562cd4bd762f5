/- The statements HouseSpec and HouseCoversSpec, walked. -/
import Derived.Test.YtninnpcggeofmaaW28
namespace Go.Proofs.Ytninnpcggeofmaa
open Go.RowKit
set_option linter.unusedVariables false
set_option linter.unusedSimpArgs false
attribute [local go_sem] frozen_new

theorem refAdd_is {v : Value} {l : List Hh} {x : Hh} {e0 : Int} {w : World} (h1 : Hh.addE l x = e0) (hv : IsHs w v l) (hl : l.length ≤ 9223372036854775807) (hcap : ∀ A n c, v = .slice A n c → n ≤ c) :
    Calls Try.prog 17 #[v, vH x] w fun e w' => ∃ v', e = .returned (.tuple #[v', .int .i64 e0]) ∧ OwnHs w' w.heap.size v' (Hh.addL l x) ∧ Below w.heap.size w w' := by
  subst h1; exact refAdd_any v l x w hv hl hcap
theorem refStanding_is {v : Value} {l : List Hh} {t e0 : Int} {w : World} (h1 : Hh.stdE l t = e0) (hv : IsHs w v l) (hl : l.length ≤ 9223372036854775807) :
    Calls Try.prog 19 #[v, .int .i64 t] w fun e w' => ∃ v', e = .returned (.tuple #[v', .int .i64 e0]) ∧ OwnHs w' w.heap.size v' (Hh.stdL l t) ∧ Below w.heap.size w w' := by
  subst h1; exact refStanding_any v l t w hv hl
theorem addL_len (l : List Hh) (x : Hh) : (Hh.addL l x).length ≤ 2048 := by
  unfold Hh.addL
  split
  · rename_i h
    have he : Hh.err l = 0 := by
      unfold Hh.addE at h
      by_cases he : Hh.err l = 0
      · exact he
      · rw [if_neg he] at h; exact absurd h he
    have h1 := (err_zero he).1
    unfold Hh.ins
    rw [List.length_append, List.length_cons, List.length_drop]
    have := List.length_take_le (Hh.pos l x.no) l
    have h3 := pos_le l x.no
    omega
  · simp
theorem stdL_len (l : List Hh) (t : Int) : (Hh.stdL l t).length ≤ 2048 := by
  unfold Hh.stdL
  split
  · rename_i h
    have he : Hh.err l = 0 := by
      unfold Hh.stdE at h
      by_cases he : Hh.err l = 0
      · exact he
      · rw [if_neg he] at h; exact absurd h he
    have h1 := (err_zero he).1
    have h2 := List.length_filter_le (fun h : Hh => decide (h.known ≤ t)) l
    unfold Hh.stand; omega
  · simp

set_option maxHeartbeats 8000000 in
set_option maxRecDepth 100000 in
theorem HouseCoversSpec_any (x : Hh) (spk beg lang at_ : Int) (w : World)  : Calls Try.prog 4 #[vH x, .int .i64 spk, .int .i64 beg, .int .i64 lang, .int .i64 at_] w fun e w' => e = .returned (.bool true) ∧ Below w.heap.size w w' := by
  have HX0 := Lib.hid (BoxH.new w x)
  have HB0 := Lib.hid (al1 w (.cells #[.int .i64 x.no, .int .i64 x.kind, .int .i64 x.spk, .int .i64 x.fst, .int .i64 x.lst, .int .i64 x.lang, .int .i64 x.frm, .int .i64 x.unt, .int .i64 x.known, .int .i64 x.ms] 24))
  have hxx : vH x = vH x := rfl
  unfold vH
  clear hxx
  go_enter Try.func4, Try.ntmps4
  go_wp2_with (fail)
  refine (sane35_any _).mono ?_
  rintro e w1 ⟨rfl, b1⟩
  have HB := Lib.hid (HB0.out.up b1)
  have HX := Lib.hid (HX0.out.upb b1)
  clear b1 HB0 HX0
  have q0 := HX.out.c0
  have q1 := HX.out.c1
  have q2 := HX.out.c2
  have q3 := HX.out.c3
  have q4 := HX.out.c4
  have q5 := HX.out.c5
  have q6 := HX.out.c6
  have q7 := HX.out.c7
  have q8 := HX.out.c8
  have q9 := HX.out.c9
  go_wp2_with (fail)
  obtain ⟨b, hb⟩ : ∃ b, Hh.cov x ⟨spk, beg, lang, at_, 0⟩ = b := ⟨_, rfl⟩
  obtain ⟨z, hz⟩ : ∃ b, Hh.covE x ⟨spk, beg, lang, at_, 0⟩ = b := ⟨_, rfl⟩
  refine (Covers_is (h := x) (q := ⟨spk, beg, lang, at_, 0⟩) hb hz _).mono ?_
  rintro e w2 ⟨rfl, b2⟩
  have HB := Lib.hid (HB.out.up b2)
  have HX := Lib.hid (HX.out.upb b2)
  clear b2 q0 q1 q2 q3 q4 q5 q6 q7 q8 q9
  have q0 := HX.out.c0
  have q1 := HX.out.c1
  have q2 := HX.out.c2
  have q3 := HX.out.c3
  have q4 := HX.out.c4
  have q5 := HX.out.c5
  have q6 := HX.out.c6
  have q7 := HX.out.c7
  have q8 := HX.out.c8
  have q9 := HX.out.c9
  go_wp2_with (fail)
  refine (refCovers_is (h := x) (q := ⟨spk, beg, lang, at_, 0⟩) hb hz _).mono ?_
  rintro e w3 ⟨rfl, b3⟩
  have HB := Lib.hid (HB.out.up b3)
  clear b3 q0 q1 q2 q3 q4 q5 q6 q7 q8 q9 hb hz
  cases b
  all_goals
    go_wp2_with (fail)
    go_ret
    exact ⟨rfl, HB.out⟩

set_option maxHeartbeats 8000000 in
set_option maxRecDepth 100000 in
theorem HouseSpec_any (v : Value) (l : List Hh) (x : Hh) (t : Int) (w : World) (hv : IsHs w v l) (hl : l.length ≤ 9223372036854775807) (hcap : ∀ A n c, v = .slice A n c → n ≤ c) : Calls Try.prog 3 #[v, vH x, .int .i64 t] w fun e w' => e = .returned (.bool true) ∧ Below w.heap.size w w' := by
  have HV := Lib.hid hv
  have HCAP := Lib.hid hcap
  obtain ⟨A, cap, rfl, hrow⟩ := id hv
  clear hrow hv hcap
  have HX0 := Lib.hid (BoxH.new w x)
  have HB0 := Lib.hid (al1 w (.cells #[.int .i64 x.no, .int .i64 x.kind, .int .i64 x.spk, .int .i64 x.fst, .int .i64 x.lst, .int .i64 x.lang, .int .i64 x.frm, .int .i64 x.unt, .int .i64 x.known, .int .i64 x.ms] 24))
  have hxx : vH x = vH x := rfl
  unfold vH
  clear hxx
  go_enter Try.func3, Try.ntmps3
  go_wp2_with (fail)
  refine (sane35_any _).mono ?_
  rintro e w1 ⟨rfl, b1⟩
  have HB := Lib.hid (HB0.out.up b1)
  have HX := Lib.hid (HX0.out.upb b1)
  clear b1 HB0 HX0
  go_wp2_with (fail)
  refine (few_any _ l w1 (HV.out.upb HB.out) hl).mono ?_
  rintro e _ ⟨rfl, rfl⟩
  cases hf : fewB l.length
  · go_wp2_with (fail)
    go_ret
    exact ⟨rfl, HB.out⟩
  have q0 := HX.out.c0
  have q1 := HX.out.c1
  have q2 := HX.out.c2
  have q3 := HX.out.c3
  have q4 := HX.out.c4
  have q5 := HX.out.c5
  have q6 := HX.out.c6
  have q7 := HX.out.c7
  have q8 := HX.out.c8
  have q9 := HX.out.c9
  clear hf
  go_wp2_with (fail)
  obtain ⟨ae, hae⟩ : ∃ b, Hh.addE l x = b := ⟨_, rfl⟩
  obtain ⟨se, hse⟩ : ∃ b, Hh.stdE l t = b := ⟨_, rfl⟩
  obtain ⟨ce, hce⟩ : ∃ b, Hh.err l = b := ⟨_, rfl⟩
  replace hae := Lib.hid hae
  replace hse := Lib.hid hse
  replace hce := Lib.hid hce
  refine (Add_is (x := x) hae.out rfl (HV.out.upb HB.out) hl).mono ?_
  rintro e w2 ⟨v1, rfl, o1, b2⟩
  have HB2 := Lib.hid (HB.out.up b2)
  have HX2 := Lib.hid (HX.out.upb b2)
  have H1 := Lib.hid o1.hs
  clear b2 o1 HX HB q0 q1 q2 q3 q4 q5 q6 q7 q8 q9
  have q0 := HX2.out.c0
  have q1 := HX2.out.c1
  have q2 := HX2.out.c2
  have q3 := HX2.out.c3
  have q4 := HX2.out.c4
  have q5 := HX2.out.c5
  have q6 := HX2.out.c6
  have q7 := HX2.out.c7
  have q8 := HX2.out.c8
  have q9 := HX2.out.c9
  go_wp2_with (fail)
  refine (refAdd_is (x := x) hae.out (HV.out.upb HB2.out) hl HCAP.out).mono ?_
  rintro e w3 ⟨v2, rfl, o1, b2⟩
  have HB3 := Lib.hid (HB2.out.up b2)
  have H1 := Lib.hid (H1.out.upb b2)
  have H2 := Lib.hid o1.hs
  clear b2 o1 HX2 HB2 q0 q1 q2 q3 q4 q5 q6 q7 q8 q9
  go_wp2_with (fail)
  refine (Standing_is hse.out rfl (HV.out.upb HB3.out) hl).mono ?_
  rintro e w4 ⟨v3, rfl, o1, b2⟩
  have HB4 := Lib.hid (HB3.out.up b2)
  have H1 := Lib.hid (H1.out.upb b2)
  have H2 := Lib.hid (H2.out.upb b2)
  have H3 := Lib.hid o1.hs
  clear b2 o1 HB3
  go_wp2_with (fail)
  refine (refStanding_is hse.out (HV.out.upb HB4.out) hl).mono ?_
  rintro e w5 ⟨v4, rfl, o1, b2⟩
  have HB5 := Lib.hid (HB4.out.up b2)
  have H1 := Lib.hid (H1.out.upb b2)
  have H2 := Lib.hid (H2.out.upb b2)
  have H3 := Lib.hid (H3.out.upb b2)
  have H4 := Lib.hid o1.hs
  clear b2 o1 HB4
  go_wp2_with (fail)
  refine (Check_is hce.out (HV.out.upb HB5.out) hl).mono ?_
  rintro e w6 ⟨rfl, b2⟩
  have HB6 := Lib.hid (HB5.out.up b2)
  have H1 := Lib.hid (H1.out.upb b2)
  have H2 := Lib.hid (H2.out.upb b2)
  have H3 := Lib.hid (H3.out.upb b2)
  have H4 := Lib.hid (H4.out.upb b2)
  clear b2 HB5
  go_wp2_with (fail)
  refine (refCheck_is hce.out (HV.out.upb HB6.out) hl).mono ?_
  rintro e w7 ⟨rfl, b2⟩
  have HB7 := Lib.hid (HB6.out.up b2)
  have H1 := Lib.hid (H1.out.upb b2)
  have H2 := Lib.hid (H2.out.upb b2)
  have H3 := Lib.hid (H3.out.upb b2)
  have H4 := Lib.hid (H4.out.upb b2)
  clear b2 HB6
  go_wp2_with (fail)
  refine (same_is (b := true) (by simp) H1.out H2.out (by have := addL_len l x; omega) (by have := addL_len l x; omega)).mono ?_
  rintro e w8 ⟨rfl, b2⟩
  have HB8 := Lib.hid (HB7.out.up b2)
  have H3 := Lib.hid (H3.out.upb b2)
  have H4 := Lib.hid (H4.out.upb b2)
  clear b2 HB7
  go_wp2_with (fail)
  refine (same_is (b := true) (by simp) H3.out H4.out (by have := stdL_len l t; omega) (by have := stdL_len l t; omega)).mono ?_
  rintro e w9 ⟨rfl, b2⟩
  have HB9 := Lib.hid (HB8.out.up b2)
  clear b2 HB8
  go_wp2_with (fail)
  go_ret
  exact ⟨rfl, HB9.out⟩
end Go.Proofs.Ytninnpcggeofmaa

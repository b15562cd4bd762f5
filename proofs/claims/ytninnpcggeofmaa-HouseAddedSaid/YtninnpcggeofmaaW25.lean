/- Walk of Add. -/
import Derived.Test.YtninnpcggeofmaaW24
namespace Go.Proofs.Ytninnpcggeofmaa
open Go.RowKit
set_option linter.unusedVariables false
set_option linter.unusedSimpArgs false
attribute [local go_sem] frozen_new

def AddPost (l : List Hh) (x : Hh) (w : World) : Ending → World → Prop := fun e w' => ∃ v', e = .returned (.tuple #[v', .int .i64 (Hh.addE l x)]) ∧ OwnHs w' w.heap.size v' (Hh.addL l x) ∧ Below w.heap.size w w'
theorem pos_le (l : List Hh) (n : Int) : Hh.pos l n ≤ l.length := List.length_filter_le _ _
theorem bsearch_is {v : Value} {l : List Hh} {n : Int} {i : Nat} {b : Bool} {w : World} (h1 : Hh.pos l n = i) (h2 : Hh.has l n = b) (hv : IsHs w v l) (hl : l.length ≤ 1024) (hinc : l.Pairwise (fun a b => a.no < b.no)) :
    Calls Try.prog 37 #[v, .int .i64 n, .func (.func 38) #[] #[]] w fun e w' => e = .returned (.tuple #[.int .i64 (i : Int), .bool b]) ∧ Below w.heap.size w w' := by
  subst h1 h2; exact bsearch_any v l n w hv hl hinc

set_option maxHeartbeats 8000000 in
set_option maxRecDepth 100000 in
theorem Add_any (v : Value) (l : List Hh) (x : Hh) (w : World) (hv : IsHs w v l) (hl : l.length ≤ 9223372036854775807) : Calls Try.prog 16 #[v, vH x] w (AddPost l x w) := by
  have HV := Lib.hid hv
  obtain ⟨A, cap, rfl, hr⟩ := id hv
  clear hr hv
  have HX0 := Lib.hid (BoxH.new w x)
  have HB0 := Lib.hid (al1 w (.cells #[.int .i64 x.no, .int .i64 x.kind, .int .i64 x.spk, .int .i64 x.fst, .int .i64 x.lst, .int .i64 x.lang, .int .i64 x.frm, .int .i64 x.unt, .int .i64 x.known, .int .i64 x.ms] 24))
  have hvv : vH x = vH x := rfl
  unfold vH
  clear hvv
  go_enter Try.func16, Try.ntmps16
  go_wp2_with (fail)
  by_cases he : Hh.err l = 0
  rotate_left
  · obtain ⟨z, hz⟩ : ∃ z, Hh.err l = z := ⟨_, rfl⟩
    have hne : (z == 0) = false := by rw [← hz]; simpa using he
    refine (Check_is hz (HV.out.upb HB0.out) hl).mono ?_
    rintro e w1 ⟨rfl, b1⟩
    have e1 : Hh.addE l x = z := by unfold Hh.addE; rw [if_neg he, hz]
    have e2 : Hh.addL l x = [] := by unfold Hh.addL; rw [e1, if_neg (by rw [← hz]; exact he)]
    have E := Lib.hid e1
    have E2 := Lib.hid e2
    clear e1 e2 he hz
    go_wp2_with (fail)
    go_ret2
    exact ⟨_, by rw [E.out]; rfl, by rw [E2.out]; exact ownH_none _ _, HB0.out.up b1⟩
  have hl2 : l.length ≤ 1024 := (err_zero he).1
  have hpw := Lib.hid (incr_pair (err_zero he).2)
  refine (Check_is he (HV.out.upb HB0.out) hl).mono ?_
  rintro e w1 ⟨rfl, b1⟩
  have HB1 := Lib.hid (HB0.out.up b1)
  have HX1 := Lib.hid (HX0.out.upb b1)
  have HE := Lib.hid he
  clear b1 he HB0 HX0
  have q0 := HX1.out.c0
  have q1 := HX1.out.c1
  have q2 := HX1.out.c2
  have q3 := HX1.out.c3
  have q4 := HX1.out.c4
  have q5 := HX1.out.c5
  have q6 := HX1.out.c6
  have q7 := HX1.out.c7
  have q8 := HX1.out.c8
  have q9 := HX1.out.c9
  go_wp2_with (fail)
  cases hr : Hh.right x
  · refine (right_is hr _).mono ?_
    rintro e w2 ⟨rfl, b2⟩
    have E := Lib.hid (show Hh.addE l x = 350 by unfold Hh.addE; rw [if_pos HE.out, hr]; rfl)
    have E2 := Lib.hid (show Hh.addL l x = [] by unfold Hh.addL; rw [E.out]; rfl)
    have HB2 := Lib.hid (HB1.out.up b2)
    clear b2 q0 q1 q2 q3 q4 q5 q6 q7 q8 q9 HX1
    go_wp2_with (fail)
    go_ret2
    exact ⟨_, by rw [E.out]; rfl, by rw [E2.out]; exact ownH_none _ _, HB2.out⟩
  refine (right_is hr _).mono ?_
  rintro e w2 ⟨rfl, b2⟩
  have HRX := Lib.hid hr
  have HB2 := Lib.hid (HB1.out.up b2)
  have HX2 := Lib.hid (HX1.out.upb b2)
  clear b2 q0 q1 q2 q3 q4 q5 q6 q7 q8 q9 HX1 HB1 hr
  have q0 := HX2.out.c0
  go_wp2_with (fail)
  obtain ⟨i, hi⟩ : ∃ i, Hh.pos l x.no = i := ⟨_, rfl⟩
  have hil : i ≤ l.length := by rw [← hi]; exact pos_le l x.no
  cases hm : Hh.has l x.no
  rotate_left
  · refine (bsearch_is hi hm (HV.out.upb HB2.out) hl2 hpw.out).mono ?_
    rintro e w3 ⟨rfl, b3⟩
    have E := Lib.hid (show Hh.addE l x = 181 by unfold Hh.addE; rw [if_pos HE.out, if_pos HRX.out, hm]; rfl)
    have E2 := Lib.hid (show Hh.addL l x = [] by unfold Hh.addL; rw [E.out]; rfl)
    have HB3 := Lib.hid (HB2.out.up b3)
    clear b3 q0 HX2
    go_wp2_with (fail)
    go_ret2
    exact ⟨_, by rw [E.out]; rfl, by rw [E2.out]; exact ownH_none _ _, HB3.out⟩
  refine (bsearch_is hi hm (HV.out.upb HB2.out) hl2 hpw.out).mono ?_
  rintro e w3 ⟨rfl, b3⟩
  have HM := Lib.hid hm
  have HI := Lib.hid hi
  have HB3 := Lib.hid (HB2.out.up b3)
  have HX3 := Lib.hid (HX2.out.upb b3)
  clear b3 q0 HX2 HB2 hm hi
  cases dl : ((l.length : Int) == 1024)
  rotate_left
  · have hll : l.length = 1024 := by simp at dl; omega
    have E := Lib.hid (show Hh.addE l x = 2 by unfold Hh.addE; rw [if_pos HE.out, if_pos HRX.out, HM.out, if_pos hll]; rfl)
    have E2 := Lib.hid (show Hh.addL l x = [] by unfold Hh.addL; rw [E.out]; rfl)
    clear hll
    go_wp2_with (fail)
    go_ret2
    exact ⟨_, by rw [E.out]; rfl, by rw [E2.out]; exact ownH_none _ _, HB3.out⟩
  have hll : ¬ l.length = 1024 := by simp at dl; omega
  have E := Lib.hid (show Hh.addE l x = 0 by unfold Hh.addE; rw [if_pos HE.out, if_pos HRX.out, HM.out, if_neg hll]; rfl)
  have E2 := Lib.hid (show Hh.addL l x = l.take i ++ x :: l.drop i by unfold Hh.addL; rw [E.out]; unfold Hh.ins; rw [HI.out]; rfl)
  clear hll
  go_wp2_with (fail)
  have HSZ := Lib.hid (show w.heap.size ≤ w3.heap.size from HB3.out.size)
  have q0 := HX3.out.c0
  have q1 := HX3.out.c1
  have q2 := HX3.out.c2
  have q3 := HX3.out.c3
  have q4 := HX3.out.c4
  have q5 := HX3.out.c5
  have q6 := HX3.out.c6
  have q7 := HX3.out.c7
  have q8 := HX3.out.c8
  have q9 := HX3.out.c9
  have HV4 := Lib.hid (show IsHs w3.drew (.slice A l.length cap) l from HV.out.upb (below_drewN HB3.out 1))
  have HB4 := Lib.hid (show Below w.heap.size w w3.drew from below_drewN HB3.out 1)
  have HX4 := Lib.hid (show BoxH w3.drew w.heap.size x from HX3.out)
  have HV5 := Lib.hid (show IsHs (w3.drew.alloc (.cells #[.int .i64 x.no, .int .i64 x.kind, .int .i64 x.spk, .int .i64 x.fst, .int .i64 x.lst, .int .i64 x.lang, .int .i64 x.frm, .int .i64 x.unt, .int .i64 x.known, .int .i64 x.ms] 24)) (.slice A l.length cap) l from HV4.out.upb (al1 _ _))
  have HB5 := Lib.hid (show Below w.heap.size w (w3.drew.alloc (.cells #[.int .i64 x.no, .int .i64 x.kind, .int .i64 x.spk, .int .i64 x.fst, .int .i64 x.lst, .int .i64 x.lang, .int .i64 x.frm, .int .i64 x.unt, .int .i64 x.known, .int .i64 x.ms] 24)) from HB4.out.up (al1 _ _))
  have HX5 := Lib.hid (show BoxH (w3.drew.alloc (.cells #[.int .i64 x.no, .int .i64 x.kind, .int .i64 x.spk, .int .i64 x.fst, .int .i64 x.lst, .int .i64 x.lang, .int .i64 x.frm, .int .i64 x.unt, .int .i64 x.known, .int .i64 x.ms] 24)) w.heap.size x from HX4.out.upb (al1 _ _))
  have HN5 := Lib.hid (show BoxH (w3.drew.alloc (.cells #[.int .i64 x.no, .int .i64 x.kind, .int .i64 x.spk, .int .i64 x.fst, .int .i64 x.lst, .int .i64 x.lang, .int .i64 x.frm, .int .i64 x.unt, .int .i64 x.known, .int .i64 x.ms] 24)) w3.drew.heap.size x from BoxH.new _ x)
  go_region_held3 (fun X => X.cell? ⟨w.heap.size, 0, none⟩ = some (.int .i64 x.no) ∧ X.cell? ⟨w.heap.size, 1, none⟩ = some (.int .i64 x.kind) ∧ X.cell? ⟨w.heap.size, 2, none⟩ = some (.int .i64 x.spk) ∧ X.cell? ⟨w.heap.size, 3, none⟩ = some (.int .i64 x.fst) ∧ X.cell? ⟨w.heap.size, 4, none⟩ = some (.int .i64 x.lst) ∧ X.cell? ⟨w.heap.size, 5, none⟩ = some (.int .i64 x.lang) ∧ X.cell? ⟨w.heap.size, 6, none⟩ = some (.int .i64 x.frm) ∧ X.cell? ⟨w.heap.size, 7, none⟩ = some (.int .i64 x.unt) ∧ X.cell? ⟨w.heap.size, 8, none⟩ = some (.int .i64 x.known) ∧ X.cell? ⟨w.heap.size, 9, none⟩ = some (.int .i64 x.ms))
    (first
      | exact ⟨q0, q1, q2, q3, q4, q5, q6, q7, q8, q9⟩
      | exact ⟨HXc.out.c0, HXc.out.c1, HXc.out.c2, HXc.out.c3, HXc.out.c4, HXc.out.c5, HXc.out.c6, HXc.out.c7, HXc.out.c8, HXc.out.c9⟩
      | exact ⟨HX5.out.c0, HX5.out.c1, HX5.out.c2, HX5.out.c3, HX5.out.c4, HX5.out.c5, HX5.out.c6, HX5.out.c7, HX5.out.c8, HX5.out.c9⟩
      | exact ⟨HXe.out.c0, HXe.out.c1, HXe.out.c2, HXe.out.c3, HXe.out.c4, HXe.out.c5, HXe.out.c6, HXe.out.c7, HXe.out.c8, HXe.out.c9⟩
      | exact ⟨HX6.out.c0, HX6.out.c1, HX6.out.c2, HX6.out.c3, HX6.out.c4, HX6.out.c5, HX6.out.c6, HX6.out.c7, HX6.out.c8, HX6.out.c9⟩)
    (first
      | (go_at_call 41
         refine (cloneH_any _ l _ HV4.out (by omega)).mono ?_
         rintro e X1 ⟨v1, rfl, ho1, hb1⟩
         have HOc := Lib.hid (ownH_alloc ho1 (.cells #[.int .i64 x.no, .int .i64 x.kind, .int .i64 x.spk, .int .i64 x.fst, .int .i64 x.lst, .int .i64 x.lang, .int .i64 x.frm, .int .i64 x.unt, .int .i64 x.known, .int .i64 x.ms] 24))
         have HSc := Lib.hid (show w3.drew.heap.size ≤ (X1.alloc (.cells #[.int .i64 x.no, .int .i64 x.kind, .int .i64 x.spk, .int .i64 x.fst, .int .i64 x.lst, .int .i64 x.lang, .int .i64 x.frm, .int .i64 x.unt, .int .i64 x.known, .int .i64 x.ms] 24)).heap.size from Nat.le_trans hb1.size (by rw [World.size_alloc]; omega))
         have HXe := Lib.hid (show BoxH (X1.alloc (.cells #[.int .i64 x.no, .int .i64 x.kind, .int .i64 x.spk, .int .i64 x.fst, .int .i64 x.lst, .int .i64 x.lang, .int .i64 x.frm, .int .i64 x.unt, .int .i64 x.known, .int .i64 x.ms] 24)) w.heap.size x from (HX4.out.upb hb1).alloc _)
         have HBc := Lib.hid ((HB4.out.up hb1).up (al1 X1 (.cells #[.int .i64 x.no, .int .i64 x.kind, .int .i64 x.spk, .int .i64 x.fst, .int .i64 x.lst, .int .i64 x.lang, .int .i64 x.frm, .int .i64 x.unt, .int .i64 x.known, .int .i64 x.ms] 24)))
         have HXc := Lib.hid (HX4.out.upb hb1)
         have HNc := Lib.hid (BoxH.new X1 x)
         have HGc := Lib.hid (fun g hg => (ownH_at ho1 g hg).2)
         obtain ⟨A1, c1, rfl⟩ := ownH_slice ho1
         clear ho1 hb1)
      | (go_at_call 41
         refine (cloneH_any _ l _ HV5.out (by omega)).mono ?_
         rintro e X1 ⟨v1, rfl, ho1, hb1⟩
         have HOd := Lib.hid ho1
         have HSd := Lib.hid hb1.size
         have HBd := Lib.hid (HB5.out.up hb1)
         have HXc := Lib.hid (HX5.out.upb hb1)
         have HNd := Lib.hid (HN5.out.upb hb1)
         have HGd := Lib.hid (fun g hg => (ownH_at ho1 g hg).1)
         obtain ⟨A1, c1, rfl⟩ := ownH_slice ho1
         clear ho1 hb1)
      | (go_at_call 40
         refine (insert_any _ i l x _ w3.drew.heap.size _ HOc.out hl2 HSc.out HNc.out (fun g hg e => by have := HGc.out g hg; omega) hil).mono ?_
         rintro e X2 ⟨v2, rfl, ho2, hb2⟩
         have HO6 := Lib.hid (ownH_mono ho2 HB4.out.size)
         have HB6 := Lib.hid (HBc.out.trans ⟨hb2.os, hb2.tape, hb2.output, hb2.size, fun b hb => hb2.block b (Nat.lt_of_lt_of_le hb HB4.out.size)⟩)
         have HX6 := Lib.hid (show BoxH X2 w.heap.size x from (hb2.block _ HX4.out.lt).trans HXe.out)
         clear ho2 hb2)
      | (go_at_call 40
         refine (insert_any _ i l x _ (w3.drew.alloc (.cells #[.int .i64 x.no, .int .i64 x.kind, .int .i64 x.spk, .int .i64 x.fst, .int .i64 x.lst, .int .i64 x.lang, .int .i64 x.frm, .int .i64 x.unt, .int .i64 x.known, .int .i64 x.ms] 24)).heap.size _ HOd.out hl2 HSd.out HNd.out (fun g hg e => by have := HGd.out g hg; rw [World.size_alloc] at this; omega) hil).mono ?_
         rintro e X2 ⟨v2, rfl, ho2, hb2⟩
         have HO6 := Lib.hid (ownH_mono ho2 HB5.out.size)
         have HB6 := Lib.hid (HBd.out.trans ⟨hb2.os, hb2.tape, hb2.output, hb2.size, fun b hb => hb2.block b (Nat.lt_of_lt_of_le hb HB5.out.size)⟩)
         have HX6 := Lib.hid (show BoxH X2 w.heap.size x from (hb2.block _ HX5.out.lt).trans HXc.out)
         clear ho2 hb2))
  all_goals
    go_wp2_with (fail)
    go_ret2
    exact ⟨_, by rw [E.out]; rfl, by rw [E2.out]; exact HO6.out, HB6.out⟩
end Go.Proofs.Ytninnpcggeofmaa

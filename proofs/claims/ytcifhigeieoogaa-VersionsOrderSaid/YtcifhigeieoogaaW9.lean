/- Walk of Add. -/
import Derived.Test.YtcifhigeieoogaaW8
namespace Go.Proofs.Ytcifhigeieoogaa
open Go.RowKit
set_option linter.unusedVariables false
set_option linter.unusedSimpArgs false
attribute [local go_sem] frozen_new
def AddPost (l : List Am) (x : Am) (w : World) : Ending → World → Prop := fun e w' => ∃ v', e = .returned (.tuple #[v', .int .i64 (Vn.addE l x)]) ∧ OwnAs w' w.heap.size v' (Vn.addL l x) ∧ Below w.heap.size w w'
theorem pos_le (l : List Am) (n : Int) : Vn.pos l n ≤ l.length := List.length_filter_le _ _
theorem bsearch_is {v : Value} {l : List Am} {t : Am} {i : Nat} {b : Bool} {w : World} (h1 : Vn.pos l t.no = i) (h2 : Vn.has l t.no = b) (hv : IsAs w v l) (hl : l.length ≤ 4096) (hinc : l.Pairwise (fun a b => a.no < b.no)) :
    Calls Try.prog 24 #[v, vA t, .func (.func 25) #[] #[]] w fun e w' => e = .returned (.tuple #[.int .i64 (i : Int), .bool b]) ∧ Below w.heap.size w w' := by
  subst h1 h2; exact bsearch_any v l t w hv hl hinc
theorem OwnAs.mono {w : World} {base base' : Nat} {v : Value} {xs : List Am} (h : OwnAs w base v xs) (hb : base' ≤ base) : OwnAs w base' v xs := by
  obtain ⟨h1, h2 | ⟨g, cap, cur, e, h3, h4⟩⟩ := h
  · exact ⟨h1, .inl h2⟩
  · exact ⟨h1, .inr ⟨g, cap, cur, e, Nat.le_trans hb h3, h4⟩⟩
theorem ret_add {v : Value} {a b : Int} (h : a = b) : Ending.returned (.tuple #[v, .int .i64 a]) = .returned (.tuple #[v, .int .i64 b]) := by rw [h]

set_option maxHeartbeats 8000000 in
set_option maxRecDepth 100000 in
theorem Add_any (v : Value) (l : List Am) (x : Am) (w : World) (hv : IsAs w v l) (hl : l.length ≤ 9223372036854775807) : Calls Try.prog 11 #[v, vA x] w (AddPost l x w) := by
  have HV := Lib.hid hv
  obtain ⟨A, cap, rfl, hr⟩ := id hv
  clear hr hv
  have HX0 := Lib.hid (BoxA.new w x)
  have HB0 := Lib.hid (al1 w (.cells #[.int .i64 x.no, .int .i64 x.at_, .int .i64 x.known, .int .i64 x.key, .int .i64 x.value, .bool x.gone] 27))
  have hvv : vA x = vA x := rfl
  unfold vA
  clear hvv
  go_enter Try.func11, Try.ntmps11
  go_wp2_with (fail)
  by_cases he : Vn.err l = 0
  rotate_left
  · obtain ⟨z, hz⟩ : ∃ z, Vn.err l = z := ⟨_, rfl⟩
    have hne : (z != 0) = true := by rw [← hz, bne_iff_ne]; exact he
    refine (Check_is hz (HV.out.upb HB0.out) hl).mono ?_
    rintro e w1 ⟨rfl, b1⟩
    have e1 : Vn.addE l x = z := by unfold Vn.addE; rw [if_neg he, hz]
    have e2 : Vn.addL l x = [] := by unfold Vn.addL; rw [e1, if_neg (by rw [← hz]; exact he)]
    have E := Lib.hid e1
    have E2 := Lib.hid e2
    clear e1 e2 he hz
    go_wp2_with (fail)
    go_ret2
    exact ⟨_, ret_add E.out.symm, by rw [E2.out]; exact OwnAs.nil _ _, HB0.out.up b1⟩
  have HOK := Lib.hid ((Vn.err_iff l).1 he)
  have hl2 : l.length ≤ 4096 := HOK.out.len
  refine (Check_is he (HV.out.upb HB0.out) hl).mono ?_
  rintro e w1 ⟨rfl, b1⟩
  have HB1 := Lib.hid (HB0.out.up b1)
  have HX1 := Lib.hid (HX0.out.upb b1)
  have HE := Lib.hid he
  clear b1 he HB0 HX0
  have q0 := HX1.out.c0
  have q1 := HX1.out.c1
  have q2 := HX1.out.c2
  have q3 := HX1.out.c3
  have q4 := HX1.out.c4
  have q5 := HX1.out.c5
  go_wp2_with (fail)
  obtain ⟨i, hi⟩ : ∃ i, Vn.pos l x.no = i := ⟨_, rfl⟩
  obtain ⟨hm, hhm⟩ : ∃ i, Vn.has l x.no = i := ⟨_, rfl⟩
  have hil : i ≤ l.length := by rw [← hi]; exact pos_le l x.no
  refine (bsearch_is hi hhm (HV.out.upb HB1.out) hl2 HOK.out.inc).mono ?_
  rintro e w3 ⟨rfl, b3⟩
  have HM := Lib.hid hhm
  have HI := Lib.hid hi
  have HB2 := Lib.hid (HB1.out.up b3)
  have HX2 := Lib.hid (HX1.out.upb b3)
  clear b3 q0 q1 q2 q3 q4 q5 HX1 HB1 hhm hi
  have q0 := HX2.out.c0
  have q1 := HX2.out.c1
  have q2 := HX2.out.c2
  have q3 := HX2.out.c3
  have q4 := HX2.out.c4
  have q5 := HX2.out.c5
  go_wp2_with (fail)
  cases hr : Vn.right x
  · refine (right_is hr _).mono ?_
    rintro e w2 ⟨rfl, b2⟩
    have E := Lib.hid (show Vn.addE l x = 160 by unfold Vn.addE; rw [if_pos HE.out, hr]; rfl)
    have E2 := Lib.hid (show Vn.addL l x = [] by unfold Vn.addL; rw [E.out]; rfl)
    have HB3 := Lib.hid (HB2.out.up b2)
    clear b2 q0 q1 q2 q3 q4 q5 HX2
    go_wp2_with (fail)
    go_ret2
    exact ⟨_, ret_add E.out.symm, by rw [E2.out]; exact OwnAs.nil _ _, HB3.out⟩
  refine (right_is hr _).mono ?_
  rintro e w4 ⟨rfl, b2⟩
  have HRX := Lib.hid hr
  have HB3 := Lib.hid (HB2.out.up b2)
  have HX3 := Lib.hid (HX2.out.upb b2)
  clear b2 q0 q1 q2 q3 q4 q5 HX2 HB2 hr
  cases hm
  rotate_left
  · have E := Lib.hid (show Vn.addE l x = 181 by unfold Vn.addE; rw [if_pos HE.out, if_pos HRX.out, HM.out]; rfl)
    have E2 := Lib.hid (show Vn.addL l x = [] by unfold Vn.addL; rw [E.out]; rfl)
    go_wp2_with (fail)
    go_ret2
    exact ⟨_, ret_add E.out.symm, by rw [E2.out]; exact OwnAs.nil _ _, HB3.out⟩
  cases dl : ((l.length : Int) == 4096)
  rotate_left
  · have hll : l.length = 4096 := by simp at dl; omega
    have E := Lib.hid (show Vn.addE l x = 2 by unfold Vn.addE; rw [if_pos HE.out, if_pos HRX.out, HM.out, if_pos hll]; rfl)
    have E2 := Lib.hid (show Vn.addL l x = [] by unfold Vn.addL; rw [E.out]; rfl)
    clear hll
    go_wp2_with (fail)
    go_ret2
    exact ⟨_, ret_add E.out.symm, by rw [E2.out]; exact OwnAs.nil _ _, HB3.out⟩
  have hll : ¬ l.length = 4096 := by simp at dl; omega
  have E := Lib.hid (show Vn.addE l x = 0 by unfold Vn.addE; rw [if_pos HE.out, if_pos HRX.out, HM.out, if_neg hll]; rfl)
  have E2 := Lib.hid (show Vn.addL l x = l.take i ++ x :: l.drop i by unfold Vn.addL; rw [E.out]; unfold Vn.ins; rw [HI.out]; rfl)
  clear hll
  go_wp2_with (fail)
  have HSZ := Lib.hid (show w.heap.size ≤ w4.heap.size from HB3.out.size)
  have q0 := HX3.out.c0
  have q1 := HX3.out.c1
  have q2 := HX3.out.c2
  have q3 := HX3.out.c3
  have q4 := HX3.out.c4
  have q5 := HX3.out.c5
  have HV4 := Lib.hid (show IsAs w4.drew (.slice A l.length cap) l from HV.out.upb (below_drewN HB3.out 1))
  have HB4 := Lib.hid (show Below w.heap.size w w4.drew from below_drewN HB3.out 1)
  have HX4 := Lib.hid (show BoxA w4.drew w.heap.size x from HX3.out)
  have HV5 := Lib.hid (show IsAs (w4.drew.alloc (.cells #[.int .i64 x.no, .int .i64 x.at_, .int .i64 x.known, .int .i64 x.key, .int .i64 x.value, .bool x.gone] 27)) (.slice A l.length cap) l from HV4.out.upb (al1 _ _))
  have HB5 := Lib.hid (show Below w.heap.size w (w4.drew.alloc (.cells #[.int .i64 x.no, .int .i64 x.at_, .int .i64 x.known, .int .i64 x.key, .int .i64 x.value, .bool x.gone] 27)) from HB4.out.up (al1 _ _))
  have HX5 := Lib.hid (show BoxA (w4.drew.alloc (.cells #[.int .i64 x.no, .int .i64 x.at_, .int .i64 x.known, .int .i64 x.key, .int .i64 x.value, .bool x.gone] 27)) w.heap.size x from HX4.out.upb (al1 _ _))
  have HN5 := Lib.hid (show BoxA (w4.drew.alloc (.cells #[.int .i64 x.no, .int .i64 x.at_, .int .i64 x.known, .int .i64 x.key, .int .i64 x.value, .bool x.gone] 27)) w4.drew.heap.size x from BoxA.new _ x)
  go_region_held3 (fun X => X.cell? ⟨w.heap.size, 0, none⟩ = some (.int .i64 x.no) ∧ X.cell? ⟨w.heap.size, 1, none⟩ = some (.int .i64 x.at_) ∧ X.cell? ⟨w.heap.size, 2, none⟩ = some (.int .i64 x.known) ∧ X.cell? ⟨w.heap.size, 3, none⟩ = some (.int .i64 x.key) ∧ X.cell? ⟨w.heap.size, 4, none⟩ = some (.int .i64 x.value) ∧ X.cell? ⟨w.heap.size, 5, none⟩ = some (.bool x.gone))
    (first
      | exact ⟨q0, q1, q2, q3, q4, q5⟩
      | exact ⟨HXc.out.c0, HXc.out.c1, HXc.out.c2, HXc.out.c3, HXc.out.c4, HXc.out.c5⟩
      | exact ⟨HX5.out.c0, HX5.out.c1, HX5.out.c2, HX5.out.c3, HX5.out.c4, HX5.out.c5⟩
      | exact ⟨HXe.out.c0, HXe.out.c1, HXe.out.c2, HXe.out.c3, HXe.out.c4, HXe.out.c5⟩
      | exact ⟨HX6.out.c0, HX6.out.c1, HX6.out.c2, HX6.out.c3, HX6.out.c4, HX6.out.c5⟩)
    (first
      | (go_at_call 28
         refine (cloneA_any _ l _ HV4.out (by omega)).mono ?_
         rintro e X1 ⟨v1, rfl, ho1, hb1⟩
         have HOc := Lib.hid (OwnAs.alloc ho1 (.cells #[.int .i64 x.no, .int .i64 x.at_, .int .i64 x.known, .int .i64 x.key, .int .i64 x.value, .bool x.gone] 27))
         have HSc := Lib.hid (show w4.drew.heap.size ≤ (X1.alloc (.cells #[.int .i64 x.no, .int .i64 x.at_, .int .i64 x.known, .int .i64 x.key, .int .i64 x.value, .bool x.gone] 27)).heap.size from Nat.le_trans hb1.size (by rw [World.size_alloc]; omega))
         have HXe := Lib.hid (show BoxA (X1.alloc (.cells #[.int .i64 x.no, .int .i64 x.at_, .int .i64 x.known, .int .i64 x.key, .int .i64 x.value, .bool x.gone] 27)) w.heap.size x from (HX4.out.upb hb1).alloc _)
         have HBc := Lib.hid ((HB4.out.up hb1).up (al1 X1 (.cells #[.int .i64 x.no, .int .i64 x.at_, .int .i64 x.known, .int .i64 x.key, .int .i64 x.value, .bool x.gone] 27)))
         have HXc := Lib.hid (HX4.out.upb hb1)
         have HNc := Lib.hid (BoxA.new X1 x)
         have HGc := Lib.hid (fun g hg => (OwnAs.at ho1 g hg).2)
         obtain ⟨A1, c1, rfl⟩ := OwnAs.slice ho1
         clear ho1 hb1)
      | (go_at_call 28
         refine (cloneA_any _ l _ HV5.out (by omega)).mono ?_
         rintro e X1 ⟨v1, rfl, ho1, hb1⟩
         have HOd := Lib.hid ho1
         have HSd := Lib.hid hb1.size
         have HBd := Lib.hid (HB5.out.up hb1)
         have HXc := Lib.hid (HX5.out.upb hb1)
         have HNd := Lib.hid (HN5.out.upb hb1)
         have HGd := Lib.hid (fun g hg => (OwnAs.at ho1 g hg).1)
         obtain ⟨A1, c1, rfl⟩ := OwnAs.slice ho1
         clear ho1 hb1)
      | (go_at_call 27
         refine (insert_any _ i l x _ w4.drew.heap.size _ HOc.out hl2 HSc.out HNc.out (fun g hg e => by have := HGc.out g hg; omega) hil).mono ?_
         rintro e X2 ⟨v2, rfl, ho2, hb2⟩
         have HO6 := Lib.hid (OwnAs.mono ho2 HB4.out.size)
         have HB6 := Lib.hid (HBc.out.trans ⟨hb2.os, hb2.tape, hb2.output, hb2.size, fun b hb => hb2.block b (Nat.lt_of_lt_of_le hb HB4.out.size)⟩)
         have HX6 := Lib.hid (show BoxA X2 w.heap.size x from (hb2.block _ HX4.out.lt).trans HXe.out)
         clear ho2 hb2)
      | (go_at_call 27
         refine (insert_any _ i l x _ (w4.drew.alloc (.cells #[.int .i64 x.no, .int .i64 x.at_, .int .i64 x.known, .int .i64 x.key, .int .i64 x.value, .bool x.gone] 27)).heap.size _ HOd.out hl2 HSd.out HNd.out (fun g hg e => by have := HGd.out g hg; rw [World.size_alloc] at this; omega) hil).mono ?_
         rintro e X2 ⟨v2, rfl, ho2, hb2⟩
         have HO6 := Lib.hid (OwnAs.mono ho2 HB5.out.size)
         have HB6 := Lib.hid (HBd.out.trans ⟨hb2.os, hb2.tape, hb2.output, hb2.size, fun b hb => hb2.block b (Nat.lt_of_lt_of_le hb HB5.out.size)⟩)
         have HX6 := Lib.hid (show BoxA X2 w.heap.size x from (hb2.block _ HX5.out.lt).trans HXc.out)
         clear ho2 hb2))
  all_goals
    go_wp2_with (fail)
    go_ret2
    exact ⟨_, ret_add E.out.symm, by rw [E2.out]; exact HO6.out, HB6.out⟩
theorem Add_is {v : Value} {l m : List Am} {x : Am} {z : Int} {w : World} (hz : Vn.addE l x = z) (hm : Vn.addL l x = m) (hv : IsAs w v l) (hl : l.length ≤ 9223372036854775807) : Calls Try.prog 11 #[v, vA x] w fun e w' => ∃ A c, e = .returned (.tuple #[.slice A m.length c, .int .i64 z]) ∧ IsAs w' (.slice A m.length c) m ∧ Below w.heap.size w w' := by
  subst hz hm
  refine (Add_any v l x w hv hl).mono ?_
  rintro e w' ⟨v', rfl, ho, hb⟩
  obtain ⟨A, c, rfl⟩ := ho.slice
  exact ⟨A, c, rfl, ho.is, hb⟩
end Go.Proofs.Ytcifhigeieoogaa

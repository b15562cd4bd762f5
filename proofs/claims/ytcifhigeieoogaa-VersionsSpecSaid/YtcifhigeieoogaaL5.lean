/- Walk of VersionsSpec. -/
import Derived.Test.YtcifhigeieoogaaL1
import Derived.Test.YtcifhigeieoogaaW21
namespace Go.Proofs.Ytcifhigeieoogaa
open Go.RowKit
set_option linter.unusedVariables false
set_option linter.unusedSimpArgs false
attribute [local go_sem] frozen_new
theorem refAdd_is {v : Value} {l m : List Am} {x : Am} {z : Int} {w : World} (hz : Vn.addE l x = z) (hm : Vn.addL l x = m) (hv : IsAs w v l) (hl : l.length ≤ 9223372036854775807) (hcap : ∀ A n c, v = .slice A n c → n ≤ c) : Calls Try.prog 15 #[v, vA x] w fun e w' => ∃ A c, e = .returned (.tuple #[.slice A m.length c, .int .i64 z]) ∧ IsAs w' (.slice A m.length c) m ∧ Below w.heap.size w w' := by
  subst hz hm
  refine (refAdd_any v l x w hv hl hcap).mono ?_
  rintro e w' ⟨v', rfl, ho, hb⟩
  obtain ⟨A, c, rfl⟩ := ho.slice
  exact ⟨A, c, rfl, ho.is, hb⟩
theorem addL_le (l : List Am) (x : Am) (hl : l.length ≤ 4611686018427387904) : (Vn.addL l x).length ≤ 9223372036854775807 := by
  unfold Vn.addL
  split
  · rw [Vn.ins_len]; omega
  · simp

set_option maxHeartbeats 8000000 in
set_option maxRecDepth 100000 in
theorem VersionsSpec_any {v : Value} {l : List Am} {x : Am} {w : World} (hv : IsAs w v l) (hl : l.length ≤ 9223372036854775807) (hcap : ∀ A n c, v = .slice A n c → n ≤ c) : Calls Try.prog 5 #[v, vA x] w (BPost true w) := by
  have HV := Lib.hid hv
  have HCAP := Lib.hid hcap
  obtain ⟨A, cap, rfl, _⟩ := id hv
  clear hv hcap
  have HW := Lib.hid (Bl.mk (Below.refl w.heap.size w))
  have hvv : vA x = vA x := rfl
  unfold vA
  clear hvv
  replace HW := Lib.hid (HW.out.upb (al1 w (.cells #[.int .i64 x.no, .int .i64 x.at_, .int .i64 x.known, .int .i64 x.key, .int .i64 x.value, .bool x.gone] 27)))
  replace HV := Lib.hid (HV.out.upb (al1 w (.cells #[.int .i64 x.no, .int .i64 x.at_, .int .i64 x.known, .int .i64 x.key, .int .i64 x.value, .bool x.gone] 27)))
  have HX := Lib.hid (BoxA.new w x)
  go_enter Try.func5, Try.ntmps5
  go_wp2_with (fail)
  refine (sane_any _).mono ?_
  rintro e w1 ⟨rfl, hb⟩
  replace HW := Lib.hid (HW.out.upb hb)
  replace HV := Lib.hid (HV.out.upb hb)
  replace HX := Lib.hid (HX.out.upb hb)
  clear hb
  go_wp2_with (fail)
  obtain ⟨fb, hfb⟩ : ∃ b, fewB l.length = b := ⟨_, rfl⟩
  refine (few_is hfb HV.out hl).mono ?_
  rintro e _ ⟨rfl, rfl⟩
  cases fb
  · clear hfb
    go_wp2_with (fail)
    go_ret
    exact ⟨rfl, HW.out.b⟩
  have hl3 : l.length ≤ 4100 := by unfold fewB at hfb; simp at hfb; omega
  clear hfb
  obtain ⟨z, hz⟩ : ∃ z, Vn.addE l x = z := ⟨_, rfl⟩
  obtain ⟨m, hm⟩ : ∃ z, Vn.addL l x = z := ⟨_, rfl⟩
  obtain ⟨c0, hc0⟩ : ∃ z, Vn.err l = z := ⟨_, rfl⟩
  have hml : m.length ≤ 9223372036854775807 := by rw [← hm]; exact addL_le l x (by omega)
  have HZ := Lib.hid (And.intro hz hm)
  have HC := Lib.hid hc0
  have h11 : (z == z) = true := beq_self_eq_true _
  have h12 : (c0 == c0) = true := beq_self_eq_true _
  clear hz hm hc0 hl3
  have q0 := HX.out.c0
  have q1 := HX.out.c1
  have q2 := HX.out.c2
  have q3 := HX.out.c3
  have q4 := HX.out.c4
  have q5 := HX.out.c5
  go_wp2_with (fail)
  refine (Add_is HZ.out.1 HZ.out.2 HV.out hl).mono ?_
  rintro e w2 ⟨A1, c1, rfl, hg, hb⟩
  replace HW := Lib.hid (HW.out.upb hb)
  replace HV := Lib.hid (HV.out.upb hb)
  replace HX := Lib.hid (HX.out.upb hb)
  clear hb q0 q1 q2 q3 q4 q5
  have HM := Lib.hid hg
  clear hg
  have q0 := HX.out.c0
  have q1 := HX.out.c1
  have q2 := HX.out.c2
  have q3 := HX.out.c3
  have q4 := HX.out.c4
  have q5 := HX.out.c5
  go_wp2_with (fail)
  refine (refAdd_is HZ.out.1 HZ.out.2 HV.out hl HCAP.out).mono ?_
  rintro e w3 ⟨A2, c2, rfl, hg, hb⟩
  replace HW := Lib.hid (HW.out.upb hb)
  replace HV := Lib.hid (HV.out.upb hb)
  replace HX := Lib.hid (HX.out.upb hb)
  replace HM := Lib.hid (HM.out.upb hb)
  clear hb q0 q1 q2 q3 q4 q5
  have HM2 := Lib.hid hg
  clear hg
  go_wp2_with (fail)
  refine (Check_is HC.out HV.out hl).mono ?_
  rintro e w4 ⟨rfl, hb⟩
  replace HW := Lib.hid (HW.out.upb hb)
  replace HV := Lib.hid (HV.out.upb hb)
  replace HX := Lib.hid (HX.out.upb hb)
  replace HM := Lib.hid (HM.out.upb hb)
  replace HM2 := Lib.hid (HM2.out.upb hb)
  clear hb
  go_wp2_with (fail)
  refine (refCheck_is HC.out HV.out hl).mono ?_
  rintro e w5 ⟨rfl, hb⟩
  replace HW := Lib.hid (HW.out.upb hb)
  replace HV := Lib.hid (HV.out.upb hb)
  replace HX := Lib.hid (HX.out.upb hb)
  replace HM := Lib.hid (HM.out.upb hb)
  replace HM2 := Lib.hid (HM2.out.upb hb)
  clear hb
  go_wp2_with (fail)
  refine (same_b (decide_eq_true rfl) HM.out HM2.out hml hml).mono ?_
  rintro e w6 ⟨rfl, hb⟩
  replace HW := Lib.hid (HW.out.upb hb)
  replace HV := Lib.hid (HV.out.upb hb)
  replace HX := Lib.hid (HX.out.upb hb)
  replace HM := Lib.hid (HM.out.upb hb)
  replace HM2 := Lib.hid (HM2.out.upb hb)
  clear hb
  go_wp2_with (fail)
  go_ret
  exact ⟨rfl, HW.out.b⟩
end Go.Proofs.Ytcifhigeieoogaa

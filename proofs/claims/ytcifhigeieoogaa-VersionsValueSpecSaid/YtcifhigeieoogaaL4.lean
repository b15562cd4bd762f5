/- Walk of VersionsValueSpec. -/
import Derived.Test.YtcifhigeieoogaaL1
import Derived.Test.YtcifhigeieoogaaW19
namespace Go.Proofs.Ytcifhigeieoogaa
open Go.RowKit
set_option linter.unusedVariables false
set_option linter.unusedSimpArgs false
attribute [local go_sem] frozen_new
theorem refHistory_to {v : Value} {l : List Am} {key k0 z : Int} {w : World} (hz : Vn.hisE l key k0 = z) (hv : IsAs w v l) (hl : l.length ≤ 9223372036854775807) : Calls Try.prog 20 #[v, .int .i64 key, .int .i64 k0] w fun e w' => ∃ A c s, e = .returned (.tuple #[.slice A s.length c, .int .i64 z]) ∧ IsSs w' (.slice A s.length c) s ∧ HistR l key k0 s ∧ s.length ≤ 9223372036854775807 ∧ Below w.heap.size w w' := by
  subst hz
  refine (refHistory_any v l key k0 w hv hl).mono ?_
  rintro e w' ⟨v', s, rfl, ho, h1, h2, hb⟩
  have hlen : s.length ≤ 9223372036854775807 := by
    obtain ⟨_, ⟨_, h⟩ | ⟨g, cap, cur, _, _, _, h3, h4, _⟩⟩ := ho
    · omega
    · unfold maxLen at h4; omega
  obtain ⟨A, c, rfl⟩ := ho.slice
  exact ⟨A, c, s, rfl, ho.is, ⟨h1, h2⟩, hlen, hb⟩

set_option maxHeartbeats 8000000 in
set_option maxRecDepth 100000 in
theorem VersionsValueSpec_any {v : Value} {l : List Am} {key t k0 : Int} {w : World} (hv : IsAs w v l) (hl : l.length ≤ 9223372036854775807) : Calls Try.prog 6 #[v, .int .i64 key, .int .i64 t, .int .i64 k0] w (BPost true w) := by
  have HV := Lib.hid hv
  obtain ⟨A, cap, rfl, _⟩ := id hv
  clear hv
  have HW := Lib.hid (Bl.mk (Below.refl w.heap.size w))
  go_enter Try.func6, Try.ntmps6
  go_wp2_with (fail)
  refine (sane_any _).mono ?_
  rintro e w1 ⟨rfl, hb⟩
  replace HW := Lib.hid (HW.out.upb hb)
  replace HV := Lib.hid (HV.out.upb hb)
  clear hb
  go_wp2_with (fail)
  obtain ⟨fb, hfb⟩ : ∃ b, fewB l.length = b := ⟨_, rfl⟩
  refine (few_is hfb HV.out hl).mono ?_
  rintro e _ ⟨rfl, rfl⟩
  clear hfb
  cases fb
  · go_wp2_with (fail)
    go_ret
    exact ⟨rfl, HW.out.b⟩
  obtain ⟨z1, hz1⟩ : ∃ z, Vn.valE l key t k0 = z := ⟨_, rfl⟩
  obtain ⟨v1, hv1⟩ : ∃ z, (Vn.val l key t k0).1 = z := ⟨_, rfl⟩
  obtain ⟨b1, hb1⟩ : ∃ z, (Vn.val l key t k0).2 = z := ⟨_, rfl⟩
  obtain ⟨z2, hz2⟩ : ∃ z, Vn.hisE l key k0 = z := ⟨_, rfl⟩
  have HA := Lib.hid (show Vn.valE l key t k0 = z1 ∧ Vn.val l key t k0 = (v1, b1) from ⟨hz1, by rw [← hv1, ← hb1]⟩)
  have HH := Lib.hid hz2
  have h11 : (v1 == v1) = true := beq_self_eq_true _
  have h12 : (z1 == z1) = true := beq_self_eq_true _
  have h13 : (z2 == z2) = true := beq_self_eq_true _
  have h14 : (b1 == b1) = true := by cases b1 <;> rfl
  clear hz1 hv1 hb1 hz2
  by_cases c1 : (30 : Int) < (l.length : Int)
  · have d1 : decide ((30 : Int) < (l.length : Int)) = true := decide_eq_true c1
    by_cases c2 : (l.length : Int) ≤ 4096
    · have d2 : decide ((l.length : Int) ≤ 4096) = true := decide_eq_true c2
      clear c1 c2
      go_wp2_with (fail)
      go_ret
      exact ⟨rfl, HW.out.b⟩
    · have d2 : decide ((l.length : Int) ≤ 4096) = false := decide_eq_false c2
      clear c1 c2
      go_wp2_with (fail)
      refine (Value_is HA.out.1 HA.out.2 HV.out hl).mono ?_
      rintro e w2 ⟨rfl, hb⟩
      replace HW := Lib.hid (HW.out.upb hb)
      replace HV := Lib.hid (HV.out.upb hb)
      clear hb
      go_wp2_with (fail)
      refine (refValue_is HA.out.1 HA.out.2 HV.out hl).mono ?_
      rintro e w3 ⟨rfl, hb⟩
      replace HW := Lib.hid (HW.out.upb hb)
      replace HV := Lib.hid (HV.out.upb hb)
      clear hb
      go_wp2_with (fail)
      refine (History_to HH.out HV.out hl).mono ?_
      rintro e w4 ⟨A4, c4, s, rfl, hs, hr, hsl, hb⟩
      replace HW := Lib.hid (HW.out.upb hb)
      replace HV := Lib.hid (HV.out.upb hb)
      clear hb
      have HS := Lib.hid hs
      have HRR := Lib.hid hr
      clear hs hr
      go_wp2_with (fail)
      refine (refHistory_to HH.out HV.out hl).mono ?_
      rintro e w5 ⟨A5, c5, s', rfl, hs, hr, hsl2, hb⟩
      replace HW := Lib.hid (HW.out.upb hb)
      replace HV := Lib.hid (HV.out.upb hb)
      replace HS := Lib.hid (HS.out.upb hb)
      clear hb
      obtain rfl : s = s' := HRR.out.uniq hr rfl (fun _ => rfl)
      have HS2 := Lib.hid hs
      clear hs hr
      go_wp2_with (fail)
      refine (sameS_b (decide_eq_true rfl) HS.out HS2.out hsl hsl2).mono ?_
      rintro e w6 ⟨rfl, hb⟩
      replace HW := Lib.hid (HW.out.upb hb)
      replace HV := Lib.hid (HV.out.upb hb)
      replace HS := Lib.hid (HS.out.upb hb)
      replace HS2 := Lib.hid (HS2.out.upb hb)
      clear hb
      go_wp2_with (fail)
      go_ret
      exact ⟨rfl, HW.out.b⟩
  · have d1 : decide ((30 : Int) < (l.length : Int)) = false := decide_eq_false c1
    clear c1
    go_wp2_with (fail)
    refine (Value_is HA.out.1 HA.out.2 HV.out hl).mono ?_
    rintro e w2 ⟨rfl, hb⟩
    replace HW := Lib.hid (HW.out.upb hb)
    replace HV := Lib.hid (HV.out.upb hb)
    clear hb
    go_wp2_with (fail)
    refine (refValue_is HA.out.1 HA.out.2 HV.out hl).mono ?_
    rintro e w3 ⟨rfl, hb⟩
    replace HW := Lib.hid (HW.out.upb hb)
    replace HV := Lib.hid (HV.out.upb hb)
    clear hb
    go_wp2_with (fail)
    refine (History_to HH.out HV.out hl).mono ?_
    rintro e w4 ⟨A4, c4, s, rfl, hs, hr, hsl, hb⟩
    replace HW := Lib.hid (HW.out.upb hb)
    replace HV := Lib.hid (HV.out.upb hb)
    clear hb
    have HS := Lib.hid hs
    have HRR := Lib.hid hr
    clear hs hr
    go_wp2_with (fail)
    refine (refHistory_to HH.out HV.out hl).mono ?_
    rintro e w5 ⟨A5, c5, s', rfl, hs, hr, hsl2, hb⟩
    replace HW := Lib.hid (HW.out.upb hb)
    replace HV := Lib.hid (HV.out.upb hb)
    replace HS := Lib.hid (HS.out.upb hb)
    clear hb
    obtain rfl : s = s' := HRR.out.uniq hr rfl (fun _ => rfl)
    have HS2 := Lib.hid hs
    clear hs hr
    go_wp2_with (fail)
    refine (sameS_b (decide_eq_true rfl) HS.out HS2.out hsl hsl2).mono ?_
    rintro e w6 ⟨rfl, hb⟩
    replace HW := Lib.hid (HW.out.upb hb)
    replace HV := Lib.hid (HV.out.upb hb)
    replace HS := Lib.hid (HS.out.upb hb)
    replace HS2 := Lib.hid (HS2.out.upb hb)
    clear hb
    go_wp2_with (fail)
    go_ret
    exact ⟨rfl, HW.out.b⟩
end Go.Proofs.Ytcifhigeieoogaa

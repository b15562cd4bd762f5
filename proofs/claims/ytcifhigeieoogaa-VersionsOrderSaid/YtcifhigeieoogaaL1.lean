/- Walk of VersionsThen. -/
import Derived.Test.YtcifhigeieoogaaW16
import Derived.Test.YtcifhigeieoogaaPlain3
namespace Go.Proofs.Ytcifhigeieoogaa
open Go.RowKit
set_option linter.unusedVariables false
set_option linter.unusedSimpArgs false
attribute [local go_sem] frozen_new
/-- what History answers -/
def HistR (l : List Am) (key k0 : Int) (s : List St) : Prop := (Vn.hisE l key k0 = 0 → Vn.Hist l key k0 s) ∧ (Vn.hisE l key k0 ≠ 0 → s = [])
theorem HistR.uniq {l m : List Am} {key k0 : Int} {s r : List St} (h1 : HistR l key k0 s) (h2 : HistR m key k0 r) (he : Vn.hisE m key k0 = Vn.hisE l key k0) (hv : ∀ t, Vn.vl l key t k0 = Vn.vl m key t k0) : s = r := by
  by_cases h0 : Vn.hisE l key k0 = 0
  · exact Vn.Hist.uniq (h1.1 h0) (h2.1 (he.trans h0)) hv
  · rw [h1.2 h0, h2.2 (by rw [he]; exact h0)]
theorem History_to {v : Value} {l : List Am} {key k0 z : Int} {w : World} (hz : Vn.hisE l key k0 = z) (hv : IsAs w v l) (hl : l.length ≤ 9223372036854775807) : Calls Try.prog 19 #[v, .int .i64 key, .int .i64 k0] w fun e w' => ∃ A c s, e = .returned (.tuple #[.slice A s.length c, .int .i64 z]) ∧ IsSs w' (.slice A s.length c) s ∧ HistR l key k0 s ∧ s.length ≤ 9223372036854775807 ∧ Below w.heap.size w w' := by
  subst hz
  refine (History_any v l key k0 w hv hl).mono ?_
  rintro e w' ⟨v', s, rfl, ho, h1, h2, hb⟩
  have hlen : s.length ≤ 9223372036854775807 := by
    obtain ⟨_, ⟨_, h⟩ | ⟨g, cap, cur, _, _, _, h3, h4, _⟩⟩ := ho
    · omega
    · unfold maxLen at h4; omega
  obtain ⟨A, c, rfl⟩ := ho.slice
  exact ⟨A, c, s, rfl, ho.is, ⟨h1, h2⟩, hlen, hb⟩
theorem hisE_ins {l : List Am} {x : Am} (h : Vn.addE l x = 0) (key k0 : Int) : Vn.hisE (Vn.ins l x) key k0 = Vn.hisE l key k0 := by
  unfold Vn.hisE
  rw [if_pos ((Vn.err_iff _).2 (Vn.ok_ins h)), if_pos (Vn.addE_zero h).1]
theorem rt_iff {l : List Am} (h : Vn.rtB l = true) : l.length ≤ 30 ∧ Vn.err l = 0 := by
  unfold Vn.rtB at h; simpa using h

set_option maxHeartbeats 8000000 in
set_option maxRecDepth 100000 in
theorem VersionsThen_any {v : Value} {l : List Am} {x : Am} {key t k0 : Int} {w : World} (hv : IsAs w v l) (hl : l.length ≤ 9223372036854775807) : Calls Try.prog 7 #[v, vA x, .int .i64 key, .int .i64 t, .int .i64 k0] w (BPost true w) := by
  have HV := Lib.hid hv
  obtain ⟨A, cap, rfl, _⟩ := id hv
  clear hv
  have HW := Lib.hid (Bl.mk (Below.refl w.heap.size w))
  have hvv : vA x = vA x := rfl
  unfold vA
  clear hvv
  replace HW := Lib.hid (HW.out.upb (al1 w (.cells #[.int .i64 x.no, .int .i64 x.at_, .int .i64 x.known, .int .i64 x.key, .int .i64 x.value, .bool x.gone] 27)))
  replace HV := Lib.hid (HV.out.upb (al1 w (.cells #[.int .i64 x.no, .int .i64 x.at_, .int .i64 x.known, .int .i64 x.key, .int .i64 x.value, .bool x.gone] 27)))
  have HX := Lib.hid (BoxA.new w x)
  go_enter Try.func7, Try.ntmps7
  go_wp2_with (fail)
  refine (sane_any _).mono ?_
  rintro e w1 ⟨rfl, hb⟩
  replace HW := Lib.hid (HW.out.upb hb)
  replace HV := Lib.hid (HV.out.upb hb)
  replace HX := Lib.hid (HX.out.upb hb)
  clear hb
  go_wp2_with (fail)
  obtain ⟨rb, hrb⟩ : ∃ b, Vn.rtB l = b := ⟨_, rfl⟩
  refine (rt_is hrb HV.out hl).mono ?_
  rintro e w2 ⟨rfl, hb⟩
  replace HW := Lib.hid (HW.out.upb hb)
  replace HV := Lib.hid (HV.out.upb hb)
  replace HX := Lib.hid (HX.out.upb hb)
  clear hb
  cases rb with
  | false =>
    go_wp2_with (fail)
    go_ret
    exact ⟨rfl, HW.out.b⟩
  | true =>
  obtain ⟨hl30, he0⟩ := rt_iff hrb
  have HOK := Lib.hid ((Vn.err_iff l).1 he0)
  clear hrb he0
  have q0 := HX.out.c0
  have q1 := HX.out.c1
  have q2 := HX.out.c2
  have q3 := HX.out.c3
  have q4 := HX.out.c4
  have q5 := HX.out.c5
  go_wp2_with (fail)
  obtain ⟨z, hz⟩ : ∃ z, Vn.addE l x = z := ⟨_, rfl⟩
  obtain ⟨m, hm⟩ : ∃ z, Vn.addL l x = z := ⟨_, rfl⟩
  have HZ := Lib.hid (And.intro hz hm)
  clear hz hm
  refine (Add_is HZ.out.1 HZ.out.2 HV.out hl).mono ?_
  rintro e w3 ⟨A1, c1, rfl, hg, hb⟩
  replace HW := Lib.hid (HW.out.upb hb)
  replace HV := Lib.hid (HV.out.upb hb)
  replace HX := Lib.hid (HX.out.upb hb)
  clear hb q0 q1 q2 q3 q4 q5
  have HM := Lib.hid hg
  clear hg
  have q0 := HX.out.c0
  have q1 := HX.out.c1
  have q2 := HX.out.c2
  have q3 := HX.out.c3
  have q4 := HX.out.c4
  have q5 := HX.out.c5
  by_cases h0 : z = 0
  case neg =>
    have hb1 : (z != 0) = true := by rw [bne_iff_ne]; exact h0
    have hb2 : (z == 0) = false := by rw [beq_eq_false_iff_ne]; exact h0
    obtain rfl : m = [] := by rw [← HZ.out.2, Vn.addL_no (by rw [HZ.out.1]; exact h0)]
    clear h0
    go_wp2_with (fail)
    go_ret
    exact ⟨rfl, HW.out.b⟩
  case pos =>
  subst h0
  by_cases hk : x.known ≤ k0
  case pos =>
    have hd : decide (x.known ≤ k0) = true := decide_eq_true hk
    clear hk
    go_wp2_with (fail)
    go_ret
    exact ⟨rfl, HW.out.b⟩
  case neg =>
  have hd : decide (x.known ≤ k0) = false := decide_eq_false hk
  obtain ⟨z1, hz1⟩ : ∃ z, Vn.valE l key t k0 = z := ⟨_, rfl⟩
  obtain ⟨v1, hv1⟩ : ∃ z, (Vn.val l key t k0).1 = z := ⟨_, rfl⟩
  obtain ⟨b1, hb1⟩ : ∃ z, (Vn.val l key t k0).2 = z := ⟨_, rfl⟩
  obtain ⟨z2, hz2⟩ : ∃ z, Vn.hisE l key k0 = z := ⟨_, rfl⟩
  have HA := Lib.hid (show Vn.valE l key t k0 = z1 ∧ Vn.val l key t k0 = (v1, b1) from ⟨hz1, by rw [← hv1, ← hb1]⟩)
  have HME := Lib.hid (show m = Vn.ins l x by rw [← HZ.out.2, Vn.addL_ok HZ.out.1])
  have HB2 := Lib.hid (show Vn.valE m key t k0 = z1 ∧ Vn.val m key t k0 = (v1, b1) from by
    rw [HME.out, Vn.valE_ins HZ.out.1, Vn.val_ins HZ.out.1 (Vn.vl_ins_no HZ.out.1 (Vn.cnt_known (by omega)))]; exact HA.out)
  have HVL := Lib.hid (show ∀ t, Vn.vl l key t k0 = Vn.vl m key t k0 from fun t => by rw [HME.out]; exact (Vn.vl_ins_no HZ.out.1 (Vn.cnt_known (by omega))).symm)
  have HHE := Lib.hid (show Vn.hisE m key k0 = Vn.hisE l key k0 by rw [HME.out]; exact hisE_ins HZ.out.1 key k0)
  have hml : m.length = l.length + 1 := by rw [HME.out]; exact Vn.ins_len l x
  have hml2 : m.length ≤ 9223372036854775807 := by omega
  have HML := Lib.hid hml
  have HH := Lib.hid hz2
  have hlen : ((m.length : Int) == (l.length : Int) + 1) = true := by rw [beq_iff_eq]; omega
  have h11 : (v1 == v1) = true := beq_self_eq_true _
  have h12 : (z1 == z1) = true := beq_self_eq_true _
  have h13 : (z2 == z2) = true := beq_self_eq_true _
  have h14 : (b1 == b1) = true := by cases b1 <;> rfl
  clear hz1 hv1 hb1 hz2 hml hk
  go_wp2_with (fail)
  clear q0 q1 q2 q3 q4 q5
  clear HX
  refine (Value_is HA.out.1 HA.out.2 HV.out hl).mono ?_
  rintro e w4 ⟨rfl, hb⟩
  replace HW := Lib.hid (HW.out.upb hb)
  replace HV := Lib.hid (HV.out.upb hb)
  replace HM := Lib.hid (HM.out.upb hb)
  clear hb
  go_wp2_with (fail)
  refine (Value_is HB2.out.1 HB2.out.2 HM.out hml2).mono ?_
  rintro e w5 ⟨rfl, hb⟩
  replace HW := Lib.hid (HW.out.upb hb)
  replace HV := Lib.hid (HV.out.upb hb)
  replace HM := Lib.hid (HM.out.upb hb)
  clear hb
  go_wp2_with (fail)
  refine (History_to HH.out HV.out hl).mono ?_
  rintro e w6 ⟨A4, c4, s, rfl, hs, hr, hsl, hb⟩
  replace HW := Lib.hid (HW.out.upb hb)
  replace HV := Lib.hid (HV.out.upb hb)
  replace HM := Lib.hid (HM.out.upb hb)
  clear hb
  have HS := Lib.hid hs
  have HRR := Lib.hid hr
  clear hs hr
  go_wp2_with (fail)
  refine (History_to (show Vn.hisE m key k0 = z2 from HHE.out.trans HH.out) HM.out hml2).mono ?_
  rintro e w7 ⟨A5, c5, s', rfl, hs, hr, hsl2, hb⟩
  replace HW := Lib.hid (HW.out.upb hb)
  replace HV := Lib.hid (HV.out.upb hb)
  replace HM := Lib.hid (HM.out.upb hb)
  replace HS := Lib.hid (HS.out.upb hb)
  clear hb
  obtain rfl : s = s' := HRR.out.uniq hr HHE.out HVL.out
  have HS2 := Lib.hid hs
  clear hs hr
  go_wp2_with (fail)
  refine (sameS_b (decide_eq_true rfl) HS.out HS2.out hsl hsl2).mono ?_
  rintro e w8 ⟨rfl, hb⟩
  replace HW := Lib.hid (HW.out.upb hb)
  replace HV := Lib.hid (HV.out.upb hb)
  replace HM := Lib.hid (HM.out.upb hb)
  replace HS := Lib.hid (HS.out.upb hb)
  replace HS2 := Lib.hid (HS2.out.upb hb)
  clear hb
  go_wp2_with (fail)
  go_ret
  exact ⟨rfl, HW.out.b⟩
end Go.Proofs.Ytcifhigeieoogaa

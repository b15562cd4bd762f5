/- Walk of VersionsBefore. -/
import Derived.Test.YtcifhigeieoogaaL1
namespace Go.Proofs.Ytcifhigeieoogaa
open Go.RowKit
set_option linter.unusedVariables false
set_option linter.unusedSimpArgs false
attribute [local go_sem] frozen_new
/-- an amendment ahead of which x does not count -/
def Vn.ahead (x : Am) (key t k0 : Int) (y : Am) : Bool := Vn.cnt key t k0 y && (decide (x.at_ < y.at_) || (decide (x.at_ = y.at_) && decide (x.no < y.no)))
theorem any_take_succ {l : List Am} (p : Am → Bool) {k : Nat} (hk : k < l.length) : (l.take (k + 1)).any p = ((l.take k).any p || p l[k]) := by
  rw [List.take_succ_eq_append_getElem hk, List.any_append]; simp

set_option maxHeartbeats 8000000 in
set_option maxRecDepth 100000 in
theorem VersionsBefore_any {v : Value} {l : List Am} {x : Am} {key t k0 : Int} {w : World} (hv : IsAs w v l) (hl : l.length ≤ 9223372036854775807) : Calls Try.prog 4 #[v, vA x, .int .i64 key, .int .i64 t, .int .i64 k0] w (BPost true w) := by
  have HV := Lib.hid hv
  obtain ⟨A, cap, rfl, _⟩ := id hv
  clear hv
  have HW := Lib.hid (Bl.mk (Below.refl w.heap.size w))
  have hvv : vA x = vA x := rfl
  unfold vA
  clear hvv
  replace HW := Lib.hid (HW.out.upb (al1 w (.cells #[.int .i64 x.no, .int .i64 x.at_, .int .i64 x.known, .int .i64 x.key, .int .i64 x.value, .bool x.gone] 27)))
  replace HV := Lib.hid (HV.out.upb (al1 w (.cells #[.int .i64 x.no, .int .i64 x.at_, .int .i64 x.known, .int .i64 x.key, .int .i64 x.value, .bool x.gone] 27)))
  have HX := Lib.hid (BoxA.new w x)
  go_enter Try.func4, Try.ntmps4
  go_wp2_with (fail)
  refine (sane_any _).mono ?_
  rintro e w1 ⟨rfl, hb⟩
  replace HW := Lib.hid (HW.out.upb hb)
  replace HV := Lib.hid (HV.out.upb hb)
  replace HX := Lib.hid (HX.out.upb hb)
  clear hb
  go_wp2_with (fail)
  obtain ⟨rb, hrb⟩ : ∃ b, Vn.rtB l = b := ⟨_, rfl⟩
  refine (rt_is hrb HV.out hl).mono ?_
  rintro e w2 ⟨rfl, hb⟩
  replace HW := Lib.hid (HW.out.upb hb)
  replace HV := Lib.hid (HV.out.upb hb)
  replace HX := Lib.hid (HX.out.upb hb)
  clear hb
  cases rb with
  | false =>
    go_wp2_with (fail)
    go_ret
    exact ⟨rfl, HW.out.b⟩
  | true =>
  obtain ⟨hl30, he0⟩ := rt_iff hrb
  have HOK := Lib.hid ((Vn.err_iff l).1 he0)
  clear hrb he0
  have q0 := HX.out.c0
  have q1 := HX.out.c1
  have q2 := HX.out.c2
  have q3 := HX.out.c3
  have q4 := HX.out.c4
  have q5 := HX.out.c5
  go_wp2_with (fail)
  obtain ⟨z, hz⟩ : ∃ z, Vn.addE l x = z := ⟨_, rfl⟩
  obtain ⟨m, hm⟩ : ∃ z, Vn.addL l x = z := ⟨_, rfl⟩
  have HZ := Lib.hid (And.intro hz hm)
  clear hz hm
  refine (Add_is HZ.out.1 HZ.out.2 HV.out hl).mono ?_
  rintro e w3 ⟨A1, c1, rfl, hg, hb⟩
  replace HW := Lib.hid (HW.out.upb hb)
  replace HV := Lib.hid (HV.out.upb hb)
  replace HX := Lib.hid (HX.out.upb hb)
  clear hb q0 q1 q2 q3 q4 q5
  have HM := Lib.hid hg
  clear hg
  by_cases h0 : z = 0
  case neg =>
    have hb1 : (z != 0) = true := by rw [bne_iff_ne]; exact h0
    obtain rfl : m = [] := by rw [← HZ.out.2, Vn.addL_no (by rw [HZ.out.1]; exact h0)]
    clear h0
    go_wp2_with (fail)
    go_ret
    exact ⟨rfl, HW.out.b⟩
  case pos =>
  subst h0
  obtain ⟨z1, hz1⟩ : ∃ z, Vn.valE l key t k0 = z := ⟨_, rfl⟩
  obtain ⟨v1, hv1⟩ : ∃ z, (Vn.val l key t k0).1 = z := ⟨_, rfl⟩
  obtain ⟨b1, hb1⟩ : ∃ z, (Vn.val l key t k0).2 = z := ⟨_, rfl⟩
  have HME := Lib.hid (show m = Vn.ins l x by rw [← HZ.out.2, Vn.addL_ok HZ.out.1])
  obtain ⟨v2, hv2⟩ : ∃ z, (Vn.val m key t k0).1 = z := ⟨_, rfl⟩
  obtain ⟨b2, hb2⟩ : ∃ z, (Vn.val m key t k0).2 = z := ⟨_, rfl⟩
  have HA := Lib.hid (show Vn.valE l key t k0 = z1 ∧ Vn.val l key t k0 = (v1, b1) from ⟨hz1, by rw [← hv1, ← hb1]⟩)
  have HB2 := Lib.hid (show Vn.valE m key t k0 = z1 ∧ Vn.val m key t k0 = (v2, b2) from ⟨by rw [HME.out, Vn.valE_ins HZ.out.1]; exact hz1, by rw [← hv2, ← hb2]⟩)
  have hml2 : m.length ≤ 9223372036854775807 := by rw [HME.out, Vn.ins_len]; omega
  clear hz1 hv1 hb1 hv2 hb2
  go_wp2_with (fail)
  refine (Value_is HA.out.1 HA.out.2 HV.out hl).mono ?_
  rintro e w4 ⟨rfl, hb⟩
  replace HW := Lib.hid (HW.out.upb hb)
  replace HV := Lib.hid (HV.out.upb hb)
  replace HX := Lib.hid (HX.out.upb hb)
  replace HM := Lib.hid (HM.out.upb hb)
  clear hb
  go_wp2_with (fail)
  refine (Value_is HB2.out.1 HB2.out.2 HM.out hml2).mono ?_
  rintro e w5 ⟨rfl, hb⟩
  replace HW := Lib.hid (HW.out.upb hb)
  replace HV := Lib.hid (HV.out.upb hb)
  replace HX := Lib.hid (HX.out.upb hb)
  replace HM := Lib.hid (HM.out.upb hb)
  clear hb
  by_cases h0 : z1 = 0
  case neg =>
    have hb1 : (z1 != 0) = true := by rw [bne_iff_ne]; exact h0
    have hb2 : (z1 != z1) = false := by simp
    have e1 : (0, false) = (v1, b1) := by rw [← HA.out.2]; unfold Vn.val; rw [if_neg (by rw [HA.out.1]; exact h0)]
    have e2 : (0, false) = (v2, b2) := by rw [← HB2.out.2]; unfold Vn.val; rw [if_neg (by rw [HB2.out.1]; exact h0)]
    injection e1 with e1 e3
    injection e2 with e2 e4
    subst e1 e2 e3 e4
    clear h0
    go_wp2_with (fail)
    go_ret
    exact ⟨rfl, HW.out.b⟩
  case pos =>
  subst h0
  have HL := Lib.hid (show Vn.vl l key t k0 = (v1, b1) ∧ Vn.vl m key t k0 = (v2, b2) from by
    have h1 := HA.out.2
    have h2 := HB2.out.2
    unfold Vn.val at h1 h2
    rw [if_pos HA.out.1] at h1
    rw [if_pos HB2.out.1] at h2
    exact ⟨h1, h2⟩)
  have HEQ := Lib.hid (fun (h : Vn.vl (Vn.ins l x) key t k0 = Vn.vl l key t k0) => show v1 = v2 ∧ b1 = b2 from by
    have h1 : (v1, b1) = (v2, b2) := HL.out.1.symm.trans (h.symm.trans (by rw [← HME.out]; exact HL.out.2))
    injection h1 with h1 h2
    exact ⟨h1, h2⟩)
  have q0 := HX.out.c0
  have q1 := HX.out.c1
  have q2 := HX.out.c2
  have q3 := HX.out.c3
  have q4 := HX.out.c4
  have q5 := HX.out.c5
  by_cases g1 : t < x.at_
  case pos =>
    have d1 : decide (t < x.at_) = true := decide_eq_true g1
    obtain ⟨rfl, rfl⟩ := HEQ.out (Vn.vl_ins_no HZ.out.1 (Vn.cnt_at g1))
    have h11 : (v1 == v1) = true := beq_self_eq_true _
    have h14 : (b1 == b1) = true := by cases b1 <;> rfl
    clear g1
    go_wp2_with (fail)
    go_ret
    exact ⟨rfl, HW.out.b⟩
  case neg =>
  have d1 : decide (t < x.at_) = false := decide_eq_false g1
  by_cases g2 : key = x.key
  case neg =>
    have d2 : (key != x.key) = true := by rw [bne_iff_ne]; exact g2
    obtain ⟨rfl, rfl⟩ := HEQ.out (Vn.vl_ins_no HZ.out.1 (Vn.cnt_key g2))
    have h11 : (v1 == v1) = true := beq_self_eq_true _
    have h14 : (b1 == b1) = true := by cases b1 <;> rfl
    clear g1 g2
    go_wp2_with (fail)
    go_ret
    exact ⟨rfl, HW.out.b⟩
  case pos =>
  have d2 : (key != x.key) = false := by rw [g2]; simp
  by_cases g3 : k0 < x.known
  case pos =>
    have d3 : decide (k0 < x.known) = true := decide_eq_true g3
    obtain ⟨rfl, rfl⟩ := HEQ.out (Vn.vl_ins_no HZ.out.1 (Vn.cnt_known g3))
    have h11 : (v1 == v1) = true := beq_self_eq_true _
    have h14 : (b1 == b1) = true := by cases b1 <;> rfl
    clear g1 g2 g3
    go_wp2_with (fail)
    go_ret
    exact ⟨rfl, HW.out.b⟩
  case neg =>
  have d3 : decide (k0 < x.known) = false := decide_eq_false g3
  have HCX := Lib.hid (show Vn.cnt key t k0 x = true from Vn.cnt_iff.2 ⟨g2.symm, by omega, by omega⟩)
  have HK2 := Lib.hid (fun (y : Am) (hy : y ∈ l) (ha : Vn.ahead x key t k0 y = true) => Vn.vl_ins_other HZ.out.1 hy (show Vn.cnt key t k0 y = true by unfold Vn.ahead at ha; simp at ha; exact ha.1) (by unfold Vn.ahead at ha; simp at ha; exact ha.2))
  clear g1 g2 g3
  go_wp2_with (fail)
  clear q0 q1 q2 q3 q4 q5 d1 d2 d3
  go_loopw [100] (fun i wr => ∃ k : Nat, i = .int .i64 k ∧ k ≤ l.length ∧ Hid ((l.take k).any (Vn.ahead x key t k0) = false) ∧ Hid (Bl w wr) ∧ Hid (IsAs wr (.slice A l.length cap) l) ∧ Hid (BoxA wr w.heap.size x)) (fun i _ => l.length - (intOf i).toNat)
  case atStart => exact ⟨0, rfl, Nat.zero_le _, Lib.hid rfl, HW, HV, HX⟩
  case round =>
    clear HW HV HX HM
    obtain ⟨k, rfl, hk, HN, HW, HV, HX⟩ := hrel
    by_cases hlt : k < l.length
    case neg =>
      obtain rfl : k = l.length := by omega
      have hd1 : decide ((l.length : Int) < (l.length : Int)) = false := decide_eq_false (by omega)
      have hnew := Vn.vl_ins_new HZ.out.1 HCX.out (fun y hy hc hh => by
        have h1 := HN.out
        rw [List.take_length, List.any_eq_false] at h1
        exact h1 y hy (by unfold Vn.ahead; rw [hc]; simpa using hh))
      rw [← HME.out, HL.out.2] at hnew
      injection hnew with e1 e2
      subst e1
      cases g : x.gone
      all_goals
        rw [g] at e2
        subst e2
        have q4 := HX.out.c4
        have q5 := HX.out.c5
        rw [g] at q5
        have h11 : (x.value == x.value) = true := beq_self_eq_true _
        go_wp2_with (fail)
        go_ret
        exact ⟨rfl, HW.out.b⟩
    case pos =>
    have hd1 : decide ((k : Int) < (l.length : Int)) = true := decide_eq_true (by omega)
    obtain ⟨A', c', e9, hrow⟩ := id HV.out
    injection e9 with e9 _ e10
    subst e9 e10
    obtain ⟨b, off, rfl, hat⟩ := IsAs_at hrow hlt
    have HY := Lib.hid hat
    have HSN := Lib.hid (any_take_succ (l := l) (Vn.ahead x key t k0) hlt)
    have HMEM := Lib.hid (List.getElem_mem hlt)
    generalize l[k] = y at *
    clear hat hrow
    have HNY := Lib.hid (BoxA.new wr y)
    have HAL := Lib.hid (al1 wr (.cells #[.int .i64 y.no, .int .i64 y.at_, .int .i64 y.known, .int .i64 y.key, .int .i64 y.value, .bool y.gone] 27))
    have HX2 := Lib.hid (HX.out.upb HAL.out)
    have HV2 := Lib.hid (HV.out.upb HAL.out)
    have HW2 := Lib.hid (HW.out.upb HAL.out)
    have q0 := HY.out.c0
    have q1 := HY.out.c1
    have q2 := HY.out.c2
    have q3 := HY.out.c3
    have q4 := HY.out.c4
    have q5 := HY.out.c5
    have n0 := HNY.out.c0
    have n1 := HNY.out.c1
    have n2 := HNY.out.c2
    have n3 := HNY.out.c3
    have x0 := HX2.out.c0
    have x1 := HX2.out.c1
    have lx := HX2.out.lt
    have ly := HNY.out.lt
    cases c1 : (y.key == key)
    ·
      have HAF := Lib.hid (show Vn.ahead x key t k0 y = false from by unfold Vn.ahead; rw [show Vn.cnt key t k0 y = false from Vn.cnt_key (by intro e; rw [e] at c1; simp at c1), Bool.false_and])

      go_wp2_with (fail)
      go_roundw
      case rel => exact ⟨k + 1, by go_num, by omega, Lib.hid (by rw [HSN.out, HN.out, HAF.out]; rfl), HW2, HV2, HX2⟩
      case measure => first | omega | (simp [intOf]; omega)
    cases c2 : decide (y.known ≤ k0)
    ·
      have HAF := Lib.hid (show Vn.ahead x key t k0 y = false from by unfold Vn.ahead; rw [show Vn.cnt key t k0 y = false from Vn.cnt_known (by simp at c2; omega), Bool.false_and])

      go_wp2_with (fail)
      go_roundw
      case rel => exact ⟨k + 1, by go_num, by omega, Lib.hid (by rw [HSN.out, HN.out, HAF.out]; rfl), HW2, HV2, HX2⟩
      case measure => first | omega | (simp [intOf]; omega)
    cases c3 : decide (y.at_ ≤ t)
    ·
      have HAF := Lib.hid (show Vn.ahead x key t k0 y = false from by unfold Vn.ahead; rw [show Vn.cnt key t k0 y = false from Vn.cnt_at (by simp at c3; omega), Bool.false_and])

      go_wp2_with (fail)
      go_roundw
      case rel => exact ⟨k + 1, by go_num, by omega, Lib.hid (by rw [HSN.out, HN.out, HAF.out]; rfl), HW2, HV2, HX2⟩
      case measure => first | omega | (simp [intOf]; omega)
    have HC := Lib.hid (show Vn.cnt key t k0 y = true from Vn.cnt_iff.2 ⟨by simpa using c1, by simpa using c2, by simpa using c3⟩)
    by_cases c4 : x.at_ < y.at_
    · have d4 : decide (x.at_ < y.at_) = true := decide_eq_true c4
      have HAT := Lib.hid (show Vn.ahead x key t k0 y = true by unfold Vn.ahead; rw [HC.out, d4]; rfl)
      clear c4
      obtain ⟨rfl, rfl⟩ := HEQ.out (HK2.out y HMEM.out HAT.out)
      have h11 : (v1 == v1) = true := beq_self_eq_true _
      have h14 : (b1 == b1) = true := by cases b1 <;> rfl
      go_wp2_with (fail)
      go_ret
      exact ⟨rfl, HW2.out.b⟩
    have d4 : decide (x.at_ < y.at_) = false := decide_eq_false c4
    by_cases c5 : y.at_ = x.at_
    case neg =>
      have d5 : (y.at_ == x.at_) = false := by rw [beq_eq_false_iff_ne]; exact c5
      have HAF := Lib.hid (show Vn.ahead x key t k0 y = false from by unfold Vn.ahead; rw [d4, decide_eq_false (show ¬ x.at_ = y.at_ from fun e => c5 e.symm)]; simp)
      clear c4 c5
      go_wp2_with (fail)
      go_roundw
      case rel => exact ⟨k + 1, by go_num, by omega, Lib.hid (by rw [HSN.out, HN.out, HAF.out]; rfl), HW2, HV2, HX2⟩
      case measure => first | omega | (simp [intOf]; omega)
    have d5 : (y.at_ == x.at_) = true := by rw [beq_iff_eq]; exact c5
    have HE5 := Lib.hid c5
    by_cases c6 : x.no < y.no
    · have d6 : decide (x.no < y.no) = true := decide_eq_true c6
      have HAT := Lib.hid (show Vn.ahead x key t k0 y = true by unfold Vn.ahead; rw [HC.out, d4, decide_eq_true HE5.out.symm, d6]; rfl)
      clear c4 c5 c6
      obtain ⟨rfl, rfl⟩ := HEQ.out (HK2.out y HMEM.out HAT.out)
      have h11 : (v1 == v1) = true := beq_self_eq_true _
      have h14 : (b1 == b1) = true := by cases b1 <;> rfl
      go_wp2_with (fail)
      go_ret
      exact ⟨rfl, HW2.out.b⟩
    · have d6 : decide (x.no < y.no) = false := decide_eq_false c6
      have HAF := Lib.hid (show Vn.ahead x key t k0 y = false from by unfold Vn.ahead; rw [d4, d6]; simp)
      clear c4 c5 c6
      go_wp2_with (fail)
      go_roundw
      case rel => exact ⟨k + 1, by go_num, by omega, Lib.hid (by rw [HSN.out, HN.out, HAF.out]; rfl), HW2, HV2, HX2⟩
      case measure => first | omega | (simp [intOf]; omega)
end Go.Proofs.Ytcifhigeieoogaa

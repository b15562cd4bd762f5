/- Walk of VersionsSteps. -/
import Derived.Test.YtcifhigeieoogaaL1
import Derived.Test.YtcifhigeieoogaaPlain4
namespace Go.Proofs.Ytcifhigeieoogaa
open Go.RowKit
set_option linter.unusedVariables false
set_option linter.unusedSimpArgs false
attribute [local go_sem] frozen_new
theorem bad_arg {l : List Am} (h : Vn.err l = 0) {key t k0 : Int} (ha : (Vn.inn key 1048576 && Vn.inn k0 1099511627775) = false) : Vn.hisE l key k0 = 1 ∧ Vn.valE l key t k0 = 1 ∧ Vn.val l key t k0 = (0, false) := by
  refine ⟨hisE_arg h ha, valE_arg h ?_⟩
  unfold Vn.argV
  rw [Bool.and_eq_false_iff] at ha
  rcases ha with h1 | h1 <;> rw [h1] <;> simp
theorem inn_no {a hi : Int} (h : a < 0 ∨ hi < a) : Vn.inn a hi = false := by unfold Vn.inn; simp; omega
theorem inn_yes {a hi : Int} (h : 0 ≤ a) (h2 : a ≤ hi) : Vn.inn a hi = true := by unfold Vn.inn; simp [h, h2]
theorem atP_step {l : List Am} {u key kn : Int} {j : Nat} (hj : j < l.length) : (l.take (j + 1)).any (Vn.atP u key kn) = ((l.take j).any (Vn.atP u key kn) || Vn.atP u key kn l[j]) := by
  rw [List.take_succ_eq_append_getElem hj, List.any_append]; simp

set_option maxHeartbeats 8000000 in
set_option maxRecDepth 100000 in
theorem VersionsSteps_any {v : Value} {l : List Am} {key t k0 : Int} {w : World} (hv : IsAs w v l) (hl : l.length ≤ 9223372036854775807) : Calls Try.prog 8 #[v, .int .i64 key, .int .i64 t, .int .i64 k0] w (BPost true w) := by
  have HV := Lib.hid hv
  obtain ⟨A, cap, rfl, _⟩ := id hv
  clear hv
  have HW := Lib.hid (Bl.mk (Below.refl w.heap.size w))
  go_enter Try.func8, Try.ntmps8
  go_wp2_with (fail)
  refine (sane_any _).mono ?_
  rintro e w1 ⟨rfl, hb⟩
  replace HW := Lib.hid (HW.out.upb hb)
  replace HV := Lib.hid (HV.out.upb hb)
  clear hb
  go_wp2_with (fail)
  obtain ⟨rb, hrb⟩ : ∃ b, Vn.rtB l = b := ⟨_, rfl⟩
  refine (rt_is hrb HV.out hl).mono ?_
  rintro e w2 ⟨rfl, hb⟩
  replace HW := Lib.hid (HW.out.upb hb)
  replace HV := Lib.hid (HV.out.upb hb)
  clear hb
  cases rb with
  | false =>
    go_wp2_with (fail)
    go_ret
    exact ⟨rfl, HW.out.b⟩
  | true =>
  obtain ⟨hl30, he0⟩ := rt_iff hrb
  have HOK := Lib.hid ((Vn.err_iff l).1 he0)
  have HE0 := Lib.hid he0
  clear hrb he0
  go_wp2_with (fail)
  obtain ⟨z2, hz2⟩ : ∃ z, Vn.hisE l key k0 = z := ⟨_, rfl⟩
  obtain ⟨z1, hz1⟩ : ∃ z, Vn.valE l key t k0 = z := ⟨_, rfl⟩
  obtain ⟨v1, hv1⟩ : ∃ z, (Vn.val l key t k0).1 = z := ⟨_, rfl⟩
  obtain ⟨b1, hb1⟩ : ∃ z, (Vn.val l key t k0).2 = z := ⟨_, rfl⟩
  have HH := Lib.hid hz2
  have HA := Lib.hid (show Vn.valE l key t k0 = z1 ∧ Vn.val l key t k0 = (v1, b1) from ⟨hz1, by rw [← hv1, ← hb1]⟩)
  clear hz2 hz1 hv1 hb1
  refine (History_to HH.out HV.out hl).mono ?_
  rintro e w3 ⟨A4, c4, s, rfl, hs, hr, hsl, hb⟩
  replace HW := Lib.hid (HW.out.upb hb)
  replace HV := Lib.hid (HV.out.upb hb)
  clear hb
  have HS := Lib.hid hs
  have HRR := Lib.hid hr
  clear hs hr
  go_wp2_with (fail)
  refine (Value_is HA.out.1 HA.out.2 HV.out hl).mono ?_
  rintro e w4 ⟨rfl, hb⟩
  replace HW := Lib.hid (HW.out.upb hb)
  replace HV := Lib.hid (HV.out.upb hb)
  replace HS := Lib.hid (HS.out.upb hb)
  clear hb
  by_cases a1 : key < 0
  case pos =>
    obtain ⟨e1, e2, e3⟩ := bad_arg (t := t) HE0.out (show (Vn.inn key 1048576 && Vn.inn k0 1099511627775) = false from by rw [inn_no (.inl a1)]; rfl)
    have e4 := HRR.out.2 (by rw [e1]; decide)
    have e5 := HH.out.symm.trans e1
    have e6 := HA.out.1.symm.trans e2
    have e7 := HA.out.2.symm.trans e3
    injection e7 with e7 e8
    clear e1 e2 e3
    subst e4 e5 e6 e7 e8
    have t1 : decide (key < 0) = true := decide_eq_true a1
    clear a1
    go_wp2_with (fail)
    go_ret
    exact ⟨rfl, HW.out.b⟩
  case neg =>
  have t1 : decide (key < 0) = false := decide_eq_false a1
  by_cases a2 : (1048576 : Int) < key
  case pos =>
    obtain ⟨e1, e2, e3⟩ := bad_arg (t := t) HE0.out (show (Vn.inn key 1048576 && Vn.inn k0 1099511627775) = false from by rw [inn_no (.inr a2)]; rfl)
    have e4 := HRR.out.2 (by rw [e1]; decide)
    have e5 := HH.out.symm.trans e1
    have e6 := HA.out.1.symm.trans e2
    have e7 := HA.out.2.symm.trans e3
    injection e7 with e7 e8
    clear e1 e2 e3
    subst e4 e5 e6 e7 e8
    have t2 : decide ((1048576 : Int) < key) = true := decide_eq_true a2
    clear a1 a2
    go_wp2_with (fail)
    go_ret
    exact ⟨rfl, HW.out.b⟩
  case neg =>
  have t2 : decide ((1048576 : Int) < key) = false := decide_eq_false a2
  by_cases a3 : k0 < 0
  case pos =>
    obtain ⟨e1, e2, e3⟩ := bad_arg (t := t) HE0.out (show (Vn.inn key 1048576 && Vn.inn k0 1099511627775) = false from by rw [inn_no (a := k0) (.inl a3), Bool.and_false])
    have e4 := HRR.out.2 (by rw [e1]; decide)
    have e5 := HH.out.symm.trans e1
    have e6 := HA.out.1.symm.trans e2
    have e7 := HA.out.2.symm.trans e3
    injection e7 with e7 e8
    clear e1 e2 e3
    subst e4 e5 e6 e7 e8
    have t3 : decide (k0 < 0) = true := decide_eq_true a3
    clear a1 a2 a3
    go_wp2_with (fail)
    go_ret
    exact ⟨rfl, HW.out.b⟩
  case neg =>
  have t3 : decide (k0 < 0) = false := decide_eq_false a3
  by_cases a4 : (1099511627776 : Int) ≤ k0
  case pos =>
    obtain ⟨e1, e2, e3⟩ := bad_arg (t := t) HE0.out (show (Vn.inn key 1048576 && Vn.inn k0 1099511627775) = false from by rw [inn_no (a := k0) (.inr (by omega)), Bool.and_false])
    have e4 := HRR.out.2 (by rw [e1]; decide)
    have e5 := HH.out.symm.trans e1
    have e6 := HA.out.1.symm.trans e2
    have e7 := HA.out.2.symm.trans e3
    injection e7 with e7 e8
    clear e1 e2 e3
    subst e4 e5 e6 e7 e8
    have t4 : decide ((1099511627776 : Int) ≤ k0) = true := decide_eq_true a4
    clear a1 a2 a3 a4
    go_wp2_with (fail)
    go_ret
    exact ⟨rfl, HW.out.b⟩
  case neg =>
  have t4 : decide ((1099511627776 : Int) ≤ k0) = false := decide_eq_false a4
  have hik : Vn.inn key 1048576 = true := inn_yes (by omega) (by omega)
  have hi0 : Vn.inn k0 1099511627775 = true := inn_yes (by omega) (by omega)
  have e5 : z2 = 0 := HH.out.symm.trans (hisE_ok HE0.out (by rw [hik, hi0]; rfl))
  have HHI := Lib.hid (HRR.out.1 (HH.out.trans e5))
  subst e5
  clear a1 a2 a3 a4
  by_cases a5 : t < 0
  case pos =>
    obtain ⟨e2, e3⟩ := valE_arg (l := l) (key := key) (k0 := k0) HE0.out (argV_t (t := t) (inn_no (.inl a5)))
    have e6 := HA.out.1.symm.trans e2
    have e7 := HA.out.2.symm.trans e3
    injection e7 with e7 e8
    clear e2 e3
    subst e6 e7 e8
    have t5 : decide (t < 0) = true := decide_eq_true a5
    clear a5 hik hi0
    by_cases hs0 : s.length = 0
    · have t9 : ((s.length : Int) == 0) = true := by rw [beq_iff_eq]; omega
      clear hs0
      go_wp2_with (fail)
      go_ret
      exact ⟨rfl, HW.out.b⟩
    · have t9 : ((s.length : Int) == 0) = false := by rw [beq_eq_false_iff_ne]; omega
      clear hs0
      go_wp2_with (fail)
      go_ret
      exact ⟨rfl, HW.out.b⟩
  case neg =>
  have t5 : decide (t < 0) = false := decide_eq_false a5
  by_cases a6 : (1099511627776 : Int) ≤ t
  case pos =>
    obtain ⟨e2, e3⟩ := valE_arg (l := l) (key := key) (k0 := k0) HE0.out (argV_t (t := t) (inn_no (.inr (by omega))))
    have e6 := HA.out.1.symm.trans e2
    have e7 := HA.out.2.symm.trans e3
    injection e7 with e7 e8
    clear e2 e3
    subst e6 e7 e8
    have t6 : decide ((1099511627776 : Int) ≤ t) = true := decide_eq_true a6
    clear a5 a6 hik hi0
    by_cases hs0 : s.length = 0
    · have t9 : ((s.length : Int) == 0) = true := by rw [beq_iff_eq]; omega
      clear hs0
      go_wp2_with (fail)
      go_ret
      exact ⟨rfl, HW.out.b⟩
    · have t9 : ((s.length : Int) == 0) = false := by rw [beq_eq_false_iff_ne]; omega
      clear hs0
      go_wp2_with (fail)
      go_ret
      exact ⟨rfl, HW.out.b⟩
  case neg =>
  have hit : Vn.inn t 1099511627775 = true := inn_yes (by omega) (by omega)
  obtain ⟨e2, e3⟩ := valE_ok (l := l) (key := key) (t := t) (k0 := k0) HE0.out (argV_y hik hit hi0)
  have e6 : z1 = 0 := HA.out.1.symm.trans e2
  have HVL := Lib.hid (show Vn.vl l key t k0 = (v1, b1) from e3.symm.trans HA.out.2)
  have HLV := Lib.hid (Vn.hist_val HOK.out.rt HHI.out (t := t) (by omega))
  subst e6
  clear e2 e3 a5 a6 hik hi0 hit t1 t2 t3 t4 t5
  have HSF := Lib.hid (fun (k : Nat) (hk : k < s.length) => Vn.step_facts HOK.out.rt HOK.out.inc HHI.out hk)
  have HB14 := Lib.hid (BoxS.new w4 ⟨0, 0, false⟩)
  have HK0 := Lib.hid (al1 w4 (.cells #[.int .i64 0, .int .i64 0, .bool false] 44))
  go_wp2_with (fail)
  go_loopw [93] (fun i wr => ∃ k : Nat, i = .int .i64 k ∧ k ≤ s.length ∧ Hid (BoxS wr w4.heap.size (Vn.lastS t Vn.z0 (s.take k))) ∧ Hid (Below w4.heap.size w4 wr)) (fun i _ => s.length - (intOf i).toNat)
  case atStart => exact ⟨0, rfl, Nat.zero_le _, HB14, HK0⟩
  case round =>
    clear HB14 HK0
    obtain ⟨k, rfl, hk, HB, HK⟩ := hrel
    by_cases hlt : k < s.length
    case neg =>
      obtain rfl : k = s.length := by omega
      have hd1 : decide ((s.length : Int) < (s.length : Int)) = false := decide_eq_false (by omega)
      have e1 : ((Vn.lastS t Vn.z0 (s.take s.length)).value, (Vn.lastS t Vn.z0 (s.take s.length)).ok) = (v1, b1) := by rw [List.take_length]; exact HLV.out.trans HVL.out
      generalize Vn.lastS t Vn.z0 (s.take s.length) = la at *
      injection e1 with e1 e2
      subst e1 e2
      have q1 := HB.out.c1
      have q2 := HB.out.c2
      have h11 : (la.value == la.value) = true := beq_self_eq_true _
      have h14 : (la.ok == la.ok) = true := by cases la.ok <;> rfl
      go_wp2_with (fail)
      go_ret
      exact ⟨rfl, HW.out.b.up HK.out⟩
    case pos =>
    have hd1 : decide ((k : Int) < (s.length : Int)) = true := decide_eq_true (by omega)
    obtain ⟨A', c', e9, hrow⟩ := id HS.out
    injection e9 with e9 _ e10
    subst e9 e10
    obtain ⟨b, off, rfl, hat⟩ := IsSs_at hrow hlt
    have HX := Lib.hid (hat.below HK.out)
    have HSTEP := Lib.hid (Vn.lastS_succ hlt t)
    have HF := Lib.hid (HSF.out k hlt)
    have HROW := Lib.hid hrow
    obtain ⟨x, hx⟩ : ∃ x, s[k] = x := ⟨_, rfl⟩
    rw [hx] at HX HSTEP HF
    have HXE := Lib.hid hx
    obtain ⟨la, hla⟩ : ∃ y, Vn.lastS t Vn.z0 (s.take k) = y := ⟨_, rfl⟩
    rw [hla] at HB HSTEP
    clear hx hla hat hrow
    obtain ⟨W2, hW2⟩ : ∃ W, (wr.alloc (.cells #[.int .i64 x.at_, .int .i64 x.value, .bool x.ok] 44)).alloc (.cells #[.int .i64 0, .int .i64 0, .bool false] 44) = W := ⟨_, rfl⟩
    have HB16 := Lib.hid (show BoxS W2 wr.heap.size x from by rw [← hW2]; exact (BoxS.new wr x).alloc _)
    have HB17 := Lib.hid (show BoxS W2 (wr.heap.size + 1) ⟨0, 0, false⟩ from by rw [← hW2]; have h := BoxS.new (wr.alloc (.cells #[.int .i64 x.at_, .int .i64 x.value, .bool x.ok] 44)) ⟨0, 0, false⟩; simp only [World.size_alloc] at h; exact h)
    have HA2 := Lib.hid (show Below wr.heap.size wr W2 from by rw [← hW2]; exact (al1 wr _).up (al1 _ _))
    have HB2 := Lib.hid (HB.out.upb HA2.out)
    have HK2 := Lib.hid (HK.out.up HA2.out)
    have hlw : w4.heap.size < wr.heap.size := HB.out.lt
    have HWE := Lib.hid hW2
    clear hW2
    have q0 := HX.out.c0
    have q1 := HX.out.c1
    have q2 := HX.out.c2
    by_cases hk0 : k = 0
    case pos =>
      have hd0 : decide ((0 : Int) < (k : Int)) = false := decide_eq_false (by omega)
      have hd0n : decide (0 < k) = false := decide_eq_false (by omega)
      have hd0m : ¬ 0 < k := by omega
      have HBF := Lib.hid (show BoxS W2 (wr.heap.size + 1) (Vn.bef s k) from by rw [hk0]; exact HB17.out)
      have HK00 := Lib.hid hk0
      clear hk0
      go_upto_region 14 with (fail)
      simp only [HWE.out]
      go_upto_region 16 with (fail)
      obtain ⟨bb, hbf⟩ : ∃ b, Vn.bef s k = b := ⟨_, rfl⟩
      rw [hbf] at HBF HF
      clear hbf HB17 HX q0 q1 q2 HA2 HB HK HWE
      obtain ⟨W3, hW3⟩ : ∃ W, W2 = W := ⟨_, rfl⟩
      rw [hW3] at HBF HB16 HB2 HK2 ⊢
      clear hW3 W2
      have x0 := HB16.out.c0
      have x1 := HB16.out.c1
      have p0 := HBF.out.c0
      have p1 := HBF.out.c1
      have l16 := HB16.out.lt
      have l17 := HBF.out.lt
      have HNE := Lib.hid HF.out.2.1
      have HV0 := Lib.hid HF.out.2.2.1
      have HEX := Lib.hid (Vn.atP_any HF.out.2.2.2)
      clear HF
      cases xo : x.ok
      · cases dv : (x.value == bb.value)
        ·
          have x2 := HB16.out.c2
          rw [xo] at x2
          have p2 := HBF.out.c2
          have hv1 : (x.value != 0) = false := by rw [HV0.out xo]; rfl
          clear HNE HV0
          go_upto_region 19 with (fail)
          clear x0 x1 x2 p0 p1 p2 l16 l17 HBF
          go_wp2_with (fail)
          go_loopw [18, 141] (fun f i wq => ∃ n : Nat, i = .int .i64 n ∧ n ≤ l.length ∧ f = .bool ((l.take n).any (Vn.atP x.at_ key k0)) ∧ Hid (BoxS wq wr.heap.size x) ∧ Hid (BoxS wq w4.heap.size la) ∧ Hid (Below w4.heap.size w4 wq)) (fun _ i _ => l.length - (intOf i).toNat)
          case atStart => exact ⟨0, rfl, Nat.zero_le _, rfl, HB16, HB2, HK2⟩
          case round =>
            clear HB16 HB2 HK2
            obtain ⟨n, rfl, hn, rfl, HB16, HB2, HK2⟩ := hrel
            by_cases hnl : n < l.length
            case neg =>
              obtain rfl : n = l.length := by omega
              have hd9 : decide ((l.length : Int) < (l.length : Int)) = false := decide_eq_false (by omega)
              have HAN := Lib.hid (show (l.take l.length).any (Vn.atP x.at_ key k0) = true by rw [List.take_length]; exact HEX.out)
              rw [HAN.out]
              have x0 := HB16.out.c0
              have x1 := HB16.out.c1
              have x2 := HB16.out.c2
              have p0 := HB2.out.c0
              have p1 := HB2.out.c1
              have p2 := HB2.out.c2
              have f0 := HB2.out.frozen 0
              have f1 := HB2.out.frozen 1
              have f2 := HB2.out.frozen 2
              have l16 := HB16.out.lt
              have l9 := HB2.out.lt
              by_cases hle : x.at_ ≤ t
              · have dl : decide (x.at_ ≤ t) = true := decide_eq_true hle
                have HLS := Lib.hid (show Vn.lastS t Vn.z0 (s.take (k + 1)) = x by rw [HSTEP.out, if_pos hle])
                have HBX := Lib.hid (HB2.out.setS x)
                have HKX := Lib.hid (below_setS HK2.out (B := w4.heap.size) (Nat.le_refl _) x)
                unfold setS at HBX HKX
                rw [xo] at HBX HKX
                clear hle
                go_wp2_with (fail)
                go_roundw
                case rel => exact ⟨k + 1, by go_num, by omega, by rw [HLS.out]; exact HBX, HKX⟩
                case measure => first | omega | (simp [intOf]; done) | (simp [intOf]; omega)
              · have dl : decide (x.at_ ≤ t) = false := decide_eq_false hle
                have HLS := Lib.hid (show Vn.lastS t Vn.z0 (s.take (k + 1)) = la by rw [HSTEP.out, if_neg hle])
                clear hle
                go_wp2_with (fail)
                go_roundw
                case rel => exact ⟨k + 1, by go_num, by omega, by rw [HLS.out]; exact HB2, HK2⟩
                case measure => first | omega | (simp [intOf]; done) | (simp [intOf]; omega)
            case pos =>
            have hd9 : decide ((n : Int) < (l.length : Int)) = true := decide_eq_true (by omega)
            obtain ⟨A2', c2', e9, hrow2⟩ := id HV.out
            injection e9 with e9 _ e10
            subst e9 e10
            obtain ⟨b2, off2, rfl, hat3⟩ := IsAs_at hrow2 hnl
            have HYY := Lib.hid (hat3.below HK2.out)
            have HAS := Lib.hid (atP_step (u := x.at_) (key := key) (kn := k0) hnl)
            generalize l[n] = y at *
            clear hat3 hrow2
            obtain ⟨fb, hfb⟩ : ∃ f, (l.take n).any (Vn.atP x.at_ key k0) = f := ⟨_, rfl⟩
            rw [hfb] at HAS ⊢
            clear hfb
            have HNY := Lib.hid (BoxA.new wr y)
            have HAL := Lib.hid (al1 wr (.cells #[.int .i64 y.no, .int .i64 y.at_, .int .i64 y.known, .int .i64 y.key, .int .i64 y.value, .bool y.gone] 27))
            have HB16n := Lib.hid (HB16.out.upb HAL.out)
            have HB2n := Lib.hid (HB2.out.upb HAL.out)
            have HK2n := Lib.hid (HK2.out.up HAL.out)
            have q0 := HYY.out.c0
            have q1 := HYY.out.c1
            have q2 := HYY.out.c2
            have q3 := HYY.out.c3
            have q4 := HYY.out.c4
            have q5 := HYY.out.c5
            have n1 := HNY.out.c1
            have n2 := HNY.out.c2
            have n3 := HNY.out.c3
            have x0 := HB16n.out.c0
            have l16 := HB16n.out.lt
            have ly := HNY.out.lt
            cases fb
            case true =>
              have HRES := Lib.hid (show (l.take (n + 1)).any (Vn.atP x.at_ key k0) = true by rw [HAS.out]; rfl)
              go_wp2_with (fail)
              go_roundw
              case rel => exact ⟨n + 1, by go_num, by omega, by rw [HRES.out], HB16n, HB2n, HK2n⟩
              case measure => first | omega | (simp [intOf]; done) | (simp [intOf]; omega)
            case false =>
            cases c1 : (y.at_ == x.at_)
            case false =>
              have HRES := Lib.hid (show (l.take (n + 1)).any (Vn.atP x.at_ key k0) = false by rw [HAS.out]; unfold Vn.atP; rw [decide_eq_false (show ¬ y.at_ = x.at_ by simpa using c1)]; rfl)
              go_wp2_with (fail)
              go_roundw
              case rel => exact ⟨n + 1, by go_num, by omega, by rw [HRES.out], HB16n, HB2n, HK2n⟩
              case measure => first | omega | (simp [intOf]; done) | (simp [intOf]; omega)
            case true =>
            cases c2 : (y.key == key)
            case false =>
              have HRES := Lib.hid (show (l.take (n + 1)).any (Vn.atP x.at_ key k0) = false by rw [HAS.out]; unfold Vn.atP; rw [decide_eq_false (show ¬ y.key = key by simpa using c2)]; simp)
              go_wp2_with (fail)
              go_roundw
              case rel => exact ⟨n + 1, by go_num, by omega, by rw [HRES.out], HB16n, HB2n, HK2n⟩
              case measure => first | omega | (simp [intOf]; done) | (simp [intOf]; omega)
            case true =>
            cases c3 : decide (y.known ≤ k0)
            case false =>
              have HRES := Lib.hid (show (l.take (n + 1)).any (Vn.atP x.at_ key k0) = false by rw [HAS.out]; unfold Vn.atP; rw [c3]; simp)
              go_wp2_with (fail)
              go_roundw
              case rel => exact ⟨n + 1, by go_num, by omega, by rw [HRES.out], HB16n, HB2n, HK2n⟩
              case measure => first | omega | (simp [intOf]; done) | (simp [intOf]; omega)
            case true =>
              have HRES := Lib.hid (show (l.take (n + 1)).any (Vn.atP x.at_ key k0) = true by rw [HAS.out]; unfold Vn.atP; rw [c3, decide_eq_true (show y.key = key by simpa using c2), decide_eq_true (show y.at_ = x.at_ by simpa using c1)]; rfl)
              go_wp2_with (fail)
              go_roundw
              case rel => exact ⟨n + 1, by go_num, by omega, by rw [HRES.out], HB16n, HB2n, HK2n⟩
              case measure => first | omega | (simp [intOf]; done) | (simp [intOf]; omega)
        ·
          have x2 := HB16.out.c2
          rw [xo] at x2
          have bo : bb.ok = true := by
            cases hb : bb.ok
            · exact absurd (xo.trans hb.symm) (fun e => HNE.out ⟨by simpa using dv, e⟩)
            · rfl
          have p2 := HBF.out.c2
          rw [bo] at p2
          have hv1 : (x.value != 0) = false := by rw [HV0.out xo]; rfl
          clear HNE HV0
          go_upto_region 19 with (fail)
          clear x0 x1 x2 p0 p1 p2 l16 l17 HBF
          go_wp2_with (fail)
          go_loopw [18, 141] (fun f i wq => ∃ n : Nat, i = .int .i64 n ∧ n ≤ l.length ∧ f = .bool ((l.take n).any (Vn.atP x.at_ key k0)) ∧ Hid (BoxS wq wr.heap.size x) ∧ Hid (BoxS wq w4.heap.size la) ∧ Hid (Below w4.heap.size w4 wq)) (fun _ i _ => l.length - (intOf i).toNat)
          case atStart => exact ⟨0, rfl, Nat.zero_le _, rfl, HB16, HB2, HK2⟩
          case round =>
            clear HB16 HB2 HK2
            obtain ⟨n, rfl, hn, rfl, HB16, HB2, HK2⟩ := hrel
            by_cases hnl : n < l.length
            case neg =>
              obtain rfl : n = l.length := by omega
              have hd9 : decide ((l.length : Int) < (l.length : Int)) = false := decide_eq_false (by omega)
              have HAN := Lib.hid (show (l.take l.length).any (Vn.atP x.at_ key k0) = true by rw [List.take_length]; exact HEX.out)
              rw [HAN.out]
              have x0 := HB16.out.c0
              have x1 := HB16.out.c1
              have x2 := HB16.out.c2
              have p0 := HB2.out.c0
              have p1 := HB2.out.c1
              have p2 := HB2.out.c2
              have f0 := HB2.out.frozen 0
              have f1 := HB2.out.frozen 1
              have f2 := HB2.out.frozen 2
              have l16 := HB16.out.lt
              have l9 := HB2.out.lt
              by_cases hle : x.at_ ≤ t
              · have dl : decide (x.at_ ≤ t) = true := decide_eq_true hle
                have HLS := Lib.hid (show Vn.lastS t Vn.z0 (s.take (k + 1)) = x by rw [HSTEP.out, if_pos hle])
                have HBX := Lib.hid (HB2.out.setS x)
                have HKX := Lib.hid (below_setS HK2.out (B := w4.heap.size) (Nat.le_refl _) x)
                unfold setS at HBX HKX
                rw [xo] at HBX HKX
                clear hle
                go_wp2_with (fail)
                go_roundw
                case rel => exact ⟨k + 1, by go_num, by omega, by rw [HLS.out]; exact HBX, HKX⟩
                case measure => first | omega | (simp [intOf]; done) | (simp [intOf]; omega)
              · have dl : decide (x.at_ ≤ t) = false := decide_eq_false hle
                have HLS := Lib.hid (show Vn.lastS t Vn.z0 (s.take (k + 1)) = la by rw [HSTEP.out, if_neg hle])
                clear hle
                go_wp2_with (fail)
                go_roundw
                case rel => exact ⟨k + 1, by go_num, by omega, by rw [HLS.out]; exact HB2, HK2⟩
                case measure => first | omega | (simp [intOf]; done) | (simp [intOf]; omega)
            case pos =>
            have hd9 : decide ((n : Int) < (l.length : Int)) = true := decide_eq_true (by omega)
            obtain ⟨A2', c2', e9, hrow2⟩ := id HV.out
            injection e9 with e9 _ e10
            subst e9 e10
            obtain ⟨b2, off2, rfl, hat3⟩ := IsAs_at hrow2 hnl
            have HYY := Lib.hid (hat3.below HK2.out)
            have HAS := Lib.hid (atP_step (u := x.at_) (key := key) (kn := k0) hnl)
            generalize l[n] = y at *
            clear hat3 hrow2
            obtain ⟨fb, hfb⟩ : ∃ f, (l.take n).any (Vn.atP x.at_ key k0) = f := ⟨_, rfl⟩
            rw [hfb] at HAS ⊢
            clear hfb
            have HNY := Lib.hid (BoxA.new wr y)
            have HAL := Lib.hid (al1 wr (.cells #[.int .i64 y.no, .int .i64 y.at_, .int .i64 y.known, .int .i64 y.key, .int .i64 y.value, .bool y.gone] 27))
            have HB16n := Lib.hid (HB16.out.upb HAL.out)
            have HB2n := Lib.hid (HB2.out.upb HAL.out)
            have HK2n := Lib.hid (HK2.out.up HAL.out)
            have q0 := HYY.out.c0
            have q1 := HYY.out.c1
            have q2 := HYY.out.c2
            have q3 := HYY.out.c3
            have q4 := HYY.out.c4
            have q5 := HYY.out.c5
            have n1 := HNY.out.c1
            have n2 := HNY.out.c2
            have n3 := HNY.out.c3
            have x0 := HB16n.out.c0
            have l16 := HB16n.out.lt
            have ly := HNY.out.lt
            cases fb
            case true =>
              have HRES := Lib.hid (show (l.take (n + 1)).any (Vn.atP x.at_ key k0) = true by rw [HAS.out]; rfl)
              go_wp2_with (fail)
              go_roundw
              case rel => exact ⟨n + 1, by go_num, by omega, by rw [HRES.out], HB16n, HB2n, HK2n⟩
              case measure => first | omega | (simp [intOf]; done) | (simp [intOf]; omega)
            case false =>
            cases c1 : (y.at_ == x.at_)
            case false =>
              have HRES := Lib.hid (show (l.take (n + 1)).any (Vn.atP x.at_ key k0) = false by rw [HAS.out]; unfold Vn.atP; rw [decide_eq_false (show ¬ y.at_ = x.at_ by simpa using c1)]; rfl)
              go_wp2_with (fail)
              go_roundw
              case rel => exact ⟨n + 1, by go_num, by omega, by rw [HRES.out], HB16n, HB2n, HK2n⟩
              case measure => first | omega | (simp [intOf]; done) | (simp [intOf]; omega)
            case true =>
            cases c2 : (y.key == key)
            case false =>
              have HRES := Lib.hid (show (l.take (n + 1)).any (Vn.atP x.at_ key k0) = false by rw [HAS.out]; unfold Vn.atP; rw [decide_eq_false (show ¬ y.key = key by simpa using c2)]; simp)
              go_wp2_with (fail)
              go_roundw
              case rel => exact ⟨n + 1, by go_num, by omega, by rw [HRES.out], HB16n, HB2n, HK2n⟩
              case measure => first | omega | (simp [intOf]; done) | (simp [intOf]; omega)
            case true =>
            cases c3 : decide (y.known ≤ k0)
            case false =>
              have HRES := Lib.hid (show (l.take (n + 1)).any (Vn.atP x.at_ key k0) = false by rw [HAS.out]; unfold Vn.atP; rw [c3]; simp)
              go_wp2_with (fail)
              go_roundw
              case rel => exact ⟨n + 1, by go_num, by omega, by rw [HRES.out], HB16n, HB2n, HK2n⟩
              case measure => first | omega | (simp [intOf]; done) | (simp [intOf]; omega)
            case true =>
              have HRES := Lib.hid (show (l.take (n + 1)).any (Vn.atP x.at_ key k0) = true by rw [HAS.out]; unfold Vn.atP; rw [c3, decide_eq_true (show y.key = key by simpa using c2), decide_eq_true (show y.at_ = x.at_ by simpa using c1)]; rfl)
              go_wp2_with (fail)
              go_roundw
              case rel => exact ⟨n + 1, by go_num, by omega, by rw [HRES.out], HB16n, HB2n, HK2n⟩
              case measure => first | omega | (simp [intOf]; done) | (simp [intOf]; omega)
      · cases dv : (x.value == bb.value)
        ·
          have x2 := HB16.out.c2
          rw [xo] at x2
          have p2 := HBF.out.c2
          clear HNE HV0
          go_upto_region 19 with (fail)
          clear x0 x1 x2 p0 p1 p2 l16 l17 HBF
          go_wp2_with (fail)
          go_loopw [18, 141] (fun f i wq => ∃ n : Nat, i = .int .i64 n ∧ n ≤ l.length ∧ f = .bool ((l.take n).any (Vn.atP x.at_ key k0)) ∧ Hid (BoxS wq wr.heap.size x) ∧ Hid (BoxS wq w4.heap.size la) ∧ Hid (Below w4.heap.size w4 wq)) (fun _ i _ => l.length - (intOf i).toNat)
          case atStart => exact ⟨0, rfl, Nat.zero_le _, rfl, HB16, HB2, HK2⟩
          case round =>
            clear HB16 HB2 HK2
            obtain ⟨n, rfl, hn, rfl, HB16, HB2, HK2⟩ := hrel
            by_cases hnl : n < l.length
            case neg =>
              obtain rfl : n = l.length := by omega
              have hd9 : decide ((l.length : Int) < (l.length : Int)) = false := decide_eq_false (by omega)
              have HAN := Lib.hid (show (l.take l.length).any (Vn.atP x.at_ key k0) = true by rw [List.take_length]; exact HEX.out)
              rw [HAN.out]
              have x0 := HB16.out.c0
              have x1 := HB16.out.c1
              have x2 := HB16.out.c2
              have p0 := HB2.out.c0
              have p1 := HB2.out.c1
              have p2 := HB2.out.c2
              have f0 := HB2.out.frozen 0
              have f1 := HB2.out.frozen 1
              have f2 := HB2.out.frozen 2
              have l16 := HB16.out.lt
              have l9 := HB2.out.lt
              by_cases hle : x.at_ ≤ t
              · have dl : decide (x.at_ ≤ t) = true := decide_eq_true hle
                have HLS := Lib.hid (show Vn.lastS t Vn.z0 (s.take (k + 1)) = x by rw [HSTEP.out, if_pos hle])
                have HBX := Lib.hid (HB2.out.setS x)
                have HKX := Lib.hid (below_setS HK2.out (B := w4.heap.size) (Nat.le_refl _) x)
                unfold setS at HBX HKX
                rw [xo] at HBX HKX
                clear hle
                go_wp2_with (fail)
                go_roundw
                case rel => exact ⟨k + 1, by go_num, by omega, by rw [HLS.out]; exact HBX, HKX⟩
                case measure => first | omega | (simp [intOf]; done) | (simp [intOf]; omega)
              · have dl : decide (x.at_ ≤ t) = false := decide_eq_false hle
                have HLS := Lib.hid (show Vn.lastS t Vn.z0 (s.take (k + 1)) = la by rw [HSTEP.out, if_neg hle])
                clear hle
                go_wp2_with (fail)
                go_roundw
                case rel => exact ⟨k + 1, by go_num, by omega, by rw [HLS.out]; exact HB2, HK2⟩
                case measure => first | omega | (simp [intOf]; done) | (simp [intOf]; omega)
            case pos =>
            have hd9 : decide ((n : Int) < (l.length : Int)) = true := decide_eq_true (by omega)
            obtain ⟨A2', c2', e9, hrow2⟩ := id HV.out
            injection e9 with e9 _ e10
            subst e9 e10
            obtain ⟨b2, off2, rfl, hat3⟩ := IsAs_at hrow2 hnl
            have HYY := Lib.hid (hat3.below HK2.out)
            have HAS := Lib.hid (atP_step (u := x.at_) (key := key) (kn := k0) hnl)
            generalize l[n] = y at *
            clear hat3 hrow2
            obtain ⟨fb, hfb⟩ : ∃ f, (l.take n).any (Vn.atP x.at_ key k0) = f := ⟨_, rfl⟩
            rw [hfb] at HAS ⊢
            clear hfb
            have HNY := Lib.hid (BoxA.new wr y)
            have HAL := Lib.hid (al1 wr (.cells #[.int .i64 y.no, .int .i64 y.at_, .int .i64 y.known, .int .i64 y.key, .int .i64 y.value, .bool y.gone] 27))
            have HB16n := Lib.hid (HB16.out.upb HAL.out)
            have HB2n := Lib.hid (HB2.out.upb HAL.out)
            have HK2n := Lib.hid (HK2.out.up HAL.out)
            have q0 := HYY.out.c0
            have q1 := HYY.out.c1
            have q2 := HYY.out.c2
            have q3 := HYY.out.c3
            have q4 := HYY.out.c4
            have q5 := HYY.out.c5
            have n1 := HNY.out.c1
            have n2 := HNY.out.c2
            have n3 := HNY.out.c3
            have x0 := HB16n.out.c0
            have l16 := HB16n.out.lt
            have ly := HNY.out.lt
            cases fb
            case true =>
              have HRES := Lib.hid (show (l.take (n + 1)).any (Vn.atP x.at_ key k0) = true by rw [HAS.out]; rfl)
              go_wp2_with (fail)
              go_roundw
              case rel => exact ⟨n + 1, by go_num, by omega, by rw [HRES.out], HB16n, HB2n, HK2n⟩
              case measure => first | omega | (simp [intOf]; done) | (simp [intOf]; omega)
            case false =>
            cases c1 : (y.at_ == x.at_)
            case false =>
              have HRES := Lib.hid (show (l.take (n + 1)).any (Vn.atP x.at_ key k0) = false by rw [HAS.out]; unfold Vn.atP; rw [decide_eq_false (show ¬ y.at_ = x.at_ by simpa using c1)]; rfl)
              go_wp2_with (fail)
              go_roundw
              case rel => exact ⟨n + 1, by go_num, by omega, by rw [HRES.out], HB16n, HB2n, HK2n⟩
              case measure => first | omega | (simp [intOf]; done) | (simp [intOf]; omega)
            case true =>
            cases c2 : (y.key == key)
            case false =>
              have HRES := Lib.hid (show (l.take (n + 1)).any (Vn.atP x.at_ key k0) = false by rw [HAS.out]; unfold Vn.atP; rw [decide_eq_false (show ¬ y.key = key by simpa using c2)]; simp)
              go_wp2_with (fail)
              go_roundw
              case rel => exact ⟨n + 1, by go_num, by omega, by rw [HRES.out], HB16n, HB2n, HK2n⟩
              case measure => first | omega | (simp [intOf]; done) | (simp [intOf]; omega)
            case true =>
            cases c3 : decide (y.known ≤ k0)
            case false =>
              have HRES := Lib.hid (show (l.take (n + 1)).any (Vn.atP x.at_ key k0) = false by rw [HAS.out]; unfold Vn.atP; rw [c3]; simp)
              go_wp2_with (fail)
              go_roundw
              case rel => exact ⟨n + 1, by go_num, by omega, by rw [HRES.out], HB16n, HB2n, HK2n⟩
              case measure => first | omega | (simp [intOf]; done) | (simp [intOf]; omega)
            case true =>
              have HRES := Lib.hid (show (l.take (n + 1)).any (Vn.atP x.at_ key k0) = true by rw [HAS.out]; unfold Vn.atP; rw [c3, decide_eq_true (show y.key = key by simpa using c2), decide_eq_true (show y.at_ = x.at_ by simpa using c1)]; rfl)
              go_wp2_with (fail)
              go_roundw
              case rel => exact ⟨n + 1, by go_num, by omega, by rw [HRES.out], HB16n, HB2n, HK2n⟩
              case measure => first | omega | (simp [intOf]; done) | (simp [intOf]; omega)
        ·
          have x2 := HB16.out.c2
          rw [xo] at x2
          have bo : bb.ok = false := by
            cases hb : bb.ok
            · rfl
            · exact absurd (xo.trans hb.symm) (fun e => HNE.out ⟨by simpa using dv, e⟩)
          have p2 := HBF.out.c2
          rw [bo] at p2
          clear HNE HV0
          go_upto_region 19 with (fail)
          clear x0 x1 x2 p0 p1 p2 l16 l17 HBF
          go_wp2_with (fail)
          go_loopw [18, 141] (fun f i wq => ∃ n : Nat, i = .int .i64 n ∧ n ≤ l.length ∧ f = .bool ((l.take n).any (Vn.atP x.at_ key k0)) ∧ Hid (BoxS wq wr.heap.size x) ∧ Hid (BoxS wq w4.heap.size la) ∧ Hid (Below w4.heap.size w4 wq)) (fun _ i _ => l.length - (intOf i).toNat)
          case atStart => exact ⟨0, rfl, Nat.zero_le _, rfl, HB16, HB2, HK2⟩
          case round =>
            clear HB16 HB2 HK2
            obtain ⟨n, rfl, hn, rfl, HB16, HB2, HK2⟩ := hrel
            by_cases hnl : n < l.length
            case neg =>
              obtain rfl : n = l.length := by omega
              have hd9 : decide ((l.length : Int) < (l.length : Int)) = false := decide_eq_false (by omega)
              have HAN := Lib.hid (show (l.take l.length).any (Vn.atP x.at_ key k0) = true by rw [List.take_length]; exact HEX.out)
              rw [HAN.out]
              have x0 := HB16.out.c0
              have x1 := HB16.out.c1
              have x2 := HB16.out.c2
              have p0 := HB2.out.c0
              have p1 := HB2.out.c1
              have p2 := HB2.out.c2
              have f0 := HB2.out.frozen 0
              have f1 := HB2.out.frozen 1
              have f2 := HB2.out.frozen 2
              have l16 := HB16.out.lt
              have l9 := HB2.out.lt
              by_cases hle : x.at_ ≤ t
              · have dl : decide (x.at_ ≤ t) = true := decide_eq_true hle
                have HLS := Lib.hid (show Vn.lastS t Vn.z0 (s.take (k + 1)) = x by rw [HSTEP.out, if_pos hle])
                have HBX := Lib.hid (HB2.out.setS x)
                have HKX := Lib.hid (below_setS HK2.out (B := w4.heap.size) (Nat.le_refl _) x)
                unfold setS at HBX HKX
                rw [xo] at HBX HKX
                clear hle
                go_wp2_with (fail)
                go_roundw
                case rel => exact ⟨k + 1, by go_num, by omega, by rw [HLS.out]; exact HBX, HKX⟩
                case measure => first | omega | (simp [intOf]; done) | (simp [intOf]; omega)
              · have dl : decide (x.at_ ≤ t) = false := decide_eq_false hle
                have HLS := Lib.hid (show Vn.lastS t Vn.z0 (s.take (k + 1)) = la by rw [HSTEP.out, if_neg hle])
                clear hle
                go_wp2_with (fail)
                go_roundw
                case rel => exact ⟨k + 1, by go_num, by omega, by rw [HLS.out]; exact HB2, HK2⟩
                case measure => first | omega | (simp [intOf]; done) | (simp [intOf]; omega)
            case pos =>
            have hd9 : decide ((n : Int) < (l.length : Int)) = true := decide_eq_true (by omega)
            obtain ⟨A2', c2', e9, hrow2⟩ := id HV.out
            injection e9 with e9 _ e10
            subst e9 e10
            obtain ⟨b2, off2, rfl, hat3⟩ := IsAs_at hrow2 hnl
            have HYY := Lib.hid (hat3.below HK2.out)
            have HAS := Lib.hid (atP_step (u := x.at_) (key := key) (kn := k0) hnl)
            generalize l[n] = y at *
            clear hat3 hrow2
            obtain ⟨fb, hfb⟩ : ∃ f, (l.take n).any (Vn.atP x.at_ key k0) = f := ⟨_, rfl⟩
            rw [hfb] at HAS ⊢
            clear hfb
            have HNY := Lib.hid (BoxA.new wr y)
            have HAL := Lib.hid (al1 wr (.cells #[.int .i64 y.no, .int .i64 y.at_, .int .i64 y.known, .int .i64 y.key, .int .i64 y.value, .bool y.gone] 27))
            have HB16n := Lib.hid (HB16.out.upb HAL.out)
            have HB2n := Lib.hid (HB2.out.upb HAL.out)
            have HK2n := Lib.hid (HK2.out.up HAL.out)
            have q0 := HYY.out.c0
            have q1 := HYY.out.c1
            have q2 := HYY.out.c2
            have q3 := HYY.out.c3
            have q4 := HYY.out.c4
            have q5 := HYY.out.c5
            have n1 := HNY.out.c1
            have n2 := HNY.out.c2
            have n3 := HNY.out.c3
            have x0 := HB16n.out.c0
            have l16 := HB16n.out.lt
            have ly := HNY.out.lt
            cases fb
            case true =>
              have HRES := Lib.hid (show (l.take (n + 1)).any (Vn.atP x.at_ key k0) = true by rw [HAS.out]; rfl)
              go_wp2_with (fail)
              go_roundw
              case rel => exact ⟨n + 1, by go_num, by omega, by rw [HRES.out], HB16n, HB2n, HK2n⟩
              case measure => first | omega | (simp [intOf]; done) | (simp [intOf]; omega)
            case false =>
            cases c1 : (y.at_ == x.at_)
            case false =>
              have HRES := Lib.hid (show (l.take (n + 1)).any (Vn.atP x.at_ key k0) = false by rw [HAS.out]; unfold Vn.atP; rw [decide_eq_false (show ¬ y.at_ = x.at_ by simpa using c1)]; rfl)
              go_wp2_with (fail)
              go_roundw
              case rel => exact ⟨n + 1, by go_num, by omega, by rw [HRES.out], HB16n, HB2n, HK2n⟩
              case measure => first | omega | (simp [intOf]; done) | (simp [intOf]; omega)
            case true =>
            cases c2 : (y.key == key)
            case false =>
              have HRES := Lib.hid (show (l.take (n + 1)).any (Vn.atP x.at_ key k0) = false by rw [HAS.out]; unfold Vn.atP; rw [decide_eq_false (show ¬ y.key = key by simpa using c2)]; simp)
              go_wp2_with (fail)
              go_roundw
              case rel => exact ⟨n + 1, by go_num, by omega, by rw [HRES.out], HB16n, HB2n, HK2n⟩
              case measure => first | omega | (simp [intOf]; done) | (simp [intOf]; omega)
            case true =>
            cases c3 : decide (y.known ≤ k0)
            case false =>
              have HRES := Lib.hid (show (l.take (n + 1)).any (Vn.atP x.at_ key k0) = false by rw [HAS.out]; unfold Vn.atP; rw [c3]; simp)
              go_wp2_with (fail)
              go_roundw
              case rel => exact ⟨n + 1, by go_num, by omega, by rw [HRES.out], HB16n, HB2n, HK2n⟩
              case measure => first | omega | (simp [intOf]; done) | (simp [intOf]; omega)
            case true =>
              have HRES := Lib.hid (show (l.take (n + 1)).any (Vn.atP x.at_ key k0) = true by rw [HAS.out]; unfold Vn.atP; rw [c3, decide_eq_true (show y.key = key by simpa using c2), decide_eq_true (show y.at_ = x.at_ by simpa using c1)]; rfl)
              go_wp2_with (fail)
              go_roundw
              case rel => exact ⟨n + 1, by go_num, by omega, by rw [HRES.out], HB16n, HB2n, HK2n⟩
              case measure => first | omega | (simp [intOf]; done) | (simp [intOf]; omega)
    case neg =>
      obtain ⟨j, rfl⟩ : ∃ j, k = j + 1 := ⟨k - 1, by omega⟩
      clear hk0
      obtain ⟨b', off', e', hat2⟩ := IsSs_at HROW.out (show j < s.length by omega)
      injection e' with e'
      injection e' with e1 e2
      subst e1 e2
      have HY := Lib.hid (hat2.below HK2.out)
      rw [← Vn.bef_succ (show j < s.length by omega)] at HY
      clear hat2
      obtain ⟨bb, hbf⟩ : ∃ b, Vn.bef s (j + 1) = b := ⟨_, rfl⟩
      rw [hbf] at HY HF
      clear hbf
      have y0 := HY.out.c0
      have y1 := HY.out.c1
      have y2 := HY.out.c2
      have o0 := HB17.out.c0
      have o1 := HB17.out.c1
      have o2 := HB17.out.c2
      have f0 := HB17.out.frozen 0
      have f1 := HB17.out.frozen 1
      have f2 := HB17.out.frozen 2
      have l17 := HB17.out.lt
      have hj1 : (0 : Int) < (j : Int) + 1 := by omega
      have hd0 : decide ((0 : Int) < (j : Int) + 1) = true := decide_eq_true hj1
      have hjl : (j : Int) < (s.length : Int) := by omega
      go_upto_region 14 with (fail)
      simp only [HWE.out]
      clear q0 q1 q2 HX HA2 HB HK HWE
      go_upto_region 16 with (fail)
      have hsw : wr.heap.size ≠ wr.heap.size + 1 := by omega
      have HBF := Lib.hid (HB17.out.setS bb)
      have HB16' := Lib.hid (show BoxS (setS W2 (wr.heap.size + 1) bb) wr.heap.size x from ((setS_grown W2 (wr.heap.size + 1) bb).block _ HB16.out.lt (fun e => by injection e with e; omega)).trans HB16.out)
      have HB2' := Lib.hid (show BoxS (setS W2 (wr.heap.size + 1) bb) w4.heap.size la from ((setS_grown W2 (wr.heap.size + 1) bb).block _ HB2.out.lt (fun e => by injection e with e; omega)).trans HB2.out)
      have HK2' := Lib.hid (below_setS HK2.out (B := wr.heap.size + 1) (by omega) bb)
      obtain ⟨W3, hW3⟩ : ∃ W, setS W2 (wr.heap.size + 1) bb = W := ⟨_, rfl⟩
      rw [hW3] at HBF HB16' HB2' HK2'
      unfold setS at hW3
      rw [hW3]
      clear hW3 HB16 HB2 HK2 HB17 y0 y1 y2 o0 o1 o2 f0 f1 f2 l17 HY hsw
      have HB16 := HB16'
      have HB2 := HB2'
      have HK2 := HK2'
      clear HB16' HB2' HK2' W2
      have hge : decide (x.at_ ≤ bb.at_) = false := decide_eq_false (by have := HF.out.1 (by omega); omega)
      have x0 := HB16.out.c0
      have x1 := HB16.out.c1
      have p0 := HBF.out.c0
      have p1 := HBF.out.c1
      have l16 := HB16.out.lt
      have l17 := HBF.out.lt
      have HNE := Lib.hid HF.out.2.1
      have HV0 := Lib.hid HF.out.2.2.1
      have HEX := Lib.hid (Vn.atP_any HF.out.2.2.2)
      clear HF
      cases xo : x.ok
      · cases dv : (x.value == bb.value)
        ·
          have x2 := HB16.out.c2
          rw [xo] at x2
          have p2 := HBF.out.c2
          have hv1 : (x.value != 0) = false := by rw [HV0.out xo]; rfl
          clear HNE HV0
          go_upto_region 19 with (fail)
          clear x0 x1 x2 p0 p1 p2 l16 l17 HBF
          go_wp2_with (fail)
          go_loopw [18, 141] (fun f i wq => ∃ n : Nat, i = .int .i64 n ∧ n ≤ l.length ∧ f = .bool ((l.take n).any (Vn.atP x.at_ key k0)) ∧ Hid (BoxS wq wr.heap.size x) ∧ Hid (BoxS wq w4.heap.size la) ∧ Hid (Below w4.heap.size w4 wq)) (fun _ i _ => l.length - (intOf i).toNat)
          case atStart => exact ⟨0, rfl, Nat.zero_le _, rfl, HB16, HB2, HK2⟩
          case round =>
            clear HB16 HB2 HK2
            obtain ⟨n, rfl, hn, rfl, HB16, HB2, HK2⟩ := hrel
            by_cases hnl : n < l.length
            case neg =>
              obtain rfl : n = l.length := by omega
              have hd9 : decide ((l.length : Int) < (l.length : Int)) = false := decide_eq_false (by omega)
              have HAN := Lib.hid (show (l.take l.length).any (Vn.atP x.at_ key k0) = true by rw [List.take_length]; exact HEX.out)
              rw [HAN.out]
              have x0 := HB16.out.c0
              have x1 := HB16.out.c1
              have x2 := HB16.out.c2
              have p0 := HB2.out.c0
              have p1 := HB2.out.c1
              have p2 := HB2.out.c2
              have f0 := HB2.out.frozen 0
              have f1 := HB2.out.frozen 1
              have f2 := HB2.out.frozen 2
              have l16 := HB16.out.lt
              have l9 := HB2.out.lt
              by_cases hle : x.at_ ≤ t
              · have dl : decide (x.at_ ≤ t) = true := decide_eq_true hle
                have HLS := Lib.hid (show Vn.lastS t Vn.z0 (s.take (j + 1 + 1)) = x by rw [HSTEP.out, if_pos hle])
                have HBX := Lib.hid (HB2.out.setS x)
                have HKX := Lib.hid (below_setS HK2.out (B := w4.heap.size) (Nat.le_refl _) x)
                unfold setS at HBX HKX
                rw [xo] at HBX HKX
                clear hle
                go_wp2_with (fail)
                go_roundw
                case rel => exact ⟨j + 1 + 1, by go_num, by omega, by rw [HLS.out]; exact HBX, HKX⟩
                case measure => first | omega | (simp [intOf]; done) | (simp [intOf]; omega)
              · have dl : decide (x.at_ ≤ t) = false := decide_eq_false hle
                have HLS := Lib.hid (show Vn.lastS t Vn.z0 (s.take (j + 1 + 1)) = la by rw [HSTEP.out, if_neg hle])
                clear hle
                go_wp2_with (fail)
                go_roundw
                case rel => exact ⟨j + 1 + 1, by go_num, by omega, by rw [HLS.out]; exact HB2, HK2⟩
                case measure => first | omega | (simp [intOf]; done) | (simp [intOf]; omega)
            case pos =>
            have hd9 : decide ((n : Int) < (l.length : Int)) = true := decide_eq_true (by omega)
            obtain ⟨A2', c2', e9, hrow2⟩ := id HV.out
            injection e9 with e9 _ e10
            subst e9 e10
            obtain ⟨b2, off2, rfl, hat3⟩ := IsAs_at hrow2 hnl
            have HYY := Lib.hid (hat3.below HK2.out)
            have HAS := Lib.hid (atP_step (u := x.at_) (key := key) (kn := k0) hnl)
            generalize l[n] = y at *
            clear hat3 hrow2
            obtain ⟨fb, hfb⟩ : ∃ f, (l.take n).any (Vn.atP x.at_ key k0) = f := ⟨_, rfl⟩
            rw [hfb] at HAS ⊢
            clear hfb
            have HNY := Lib.hid (BoxA.new wr y)
            have HAL := Lib.hid (al1 wr (.cells #[.int .i64 y.no, .int .i64 y.at_, .int .i64 y.known, .int .i64 y.key, .int .i64 y.value, .bool y.gone] 27))
            have HB16n := Lib.hid (HB16.out.upb HAL.out)
            have HB2n := Lib.hid (HB2.out.upb HAL.out)
            have HK2n := Lib.hid (HK2.out.up HAL.out)
            have q0 := HYY.out.c0
            have q1 := HYY.out.c1
            have q2 := HYY.out.c2
            have q3 := HYY.out.c3
            have q4 := HYY.out.c4
            have q5 := HYY.out.c5
            have n1 := HNY.out.c1
            have n2 := HNY.out.c2
            have n3 := HNY.out.c3
            have x0 := HB16n.out.c0
            have l16 := HB16n.out.lt
            have ly := HNY.out.lt
            cases fb
            case true =>
              have HRES := Lib.hid (show (l.take (n + 1)).any (Vn.atP x.at_ key k0) = true by rw [HAS.out]; rfl)
              go_wp2_with (fail)
              go_roundw
              case rel => exact ⟨n + 1, by go_num, by omega, by rw [HRES.out], HB16n, HB2n, HK2n⟩
              case measure => first | omega | (simp [intOf]; done) | (simp [intOf]; omega)
            case false =>
            cases c1 : (y.at_ == x.at_)
            case false =>
              have HRES := Lib.hid (show (l.take (n + 1)).any (Vn.atP x.at_ key k0) = false by rw [HAS.out]; unfold Vn.atP; rw [decide_eq_false (show ¬ y.at_ = x.at_ by simpa using c1)]; rfl)
              go_wp2_with (fail)
              go_roundw
              case rel => exact ⟨n + 1, by go_num, by omega, by rw [HRES.out], HB16n, HB2n, HK2n⟩
              case measure => first | omega | (simp [intOf]; done) | (simp [intOf]; omega)
            case true =>
            cases c2 : (y.key == key)
            case false =>
              have HRES := Lib.hid (show (l.take (n + 1)).any (Vn.atP x.at_ key k0) = false by rw [HAS.out]; unfold Vn.atP; rw [decide_eq_false (show ¬ y.key = key by simpa using c2)]; simp)
              go_wp2_with (fail)
              go_roundw
              case rel => exact ⟨n + 1, by go_num, by omega, by rw [HRES.out], HB16n, HB2n, HK2n⟩
              case measure => first | omega | (simp [intOf]; done) | (simp [intOf]; omega)
            case true =>
            cases c3 : decide (y.known ≤ k0)
            case false =>
              have HRES := Lib.hid (show (l.take (n + 1)).any (Vn.atP x.at_ key k0) = false by rw [HAS.out]; unfold Vn.atP; rw [c3]; simp)
              go_wp2_with (fail)
              go_roundw
              case rel => exact ⟨n + 1, by go_num, by omega, by rw [HRES.out], HB16n, HB2n, HK2n⟩
              case measure => first | omega | (simp [intOf]; done) | (simp [intOf]; omega)
            case true =>
              have HRES := Lib.hid (show (l.take (n + 1)).any (Vn.atP x.at_ key k0) = true by rw [HAS.out]; unfold Vn.atP; rw [c3, decide_eq_true (show y.key = key by simpa using c2), decide_eq_true (show y.at_ = x.at_ by simpa using c1)]; rfl)
              go_wp2_with (fail)
              go_roundw
              case rel => exact ⟨n + 1, by go_num, by omega, by rw [HRES.out], HB16n, HB2n, HK2n⟩
              case measure => first | omega | (simp [intOf]; done) | (simp [intOf]; omega)
        ·
          have x2 := HB16.out.c2
          rw [xo] at x2
          have bo : bb.ok = true := by
            cases hb : bb.ok
            · exact absurd (xo.trans hb.symm) (fun e => HNE.out ⟨by simpa using dv, e⟩)
            · rfl
          have p2 := HBF.out.c2
          rw [bo] at p2
          have hv1 : (x.value != 0) = false := by rw [HV0.out xo]; rfl
          clear HNE HV0
          go_upto_region 19 with (fail)
          clear x0 x1 x2 p0 p1 p2 l16 l17 HBF
          go_wp2_with (fail)
          go_loopw [18, 141] (fun f i wq => ∃ n : Nat, i = .int .i64 n ∧ n ≤ l.length ∧ f = .bool ((l.take n).any (Vn.atP x.at_ key k0)) ∧ Hid (BoxS wq wr.heap.size x) ∧ Hid (BoxS wq w4.heap.size la) ∧ Hid (Below w4.heap.size w4 wq)) (fun _ i _ => l.length - (intOf i).toNat)
          case atStart => exact ⟨0, rfl, Nat.zero_le _, rfl, HB16, HB2, HK2⟩
          case round =>
            clear HB16 HB2 HK2
            obtain ⟨n, rfl, hn, rfl, HB16, HB2, HK2⟩ := hrel
            by_cases hnl : n < l.length
            case neg =>
              obtain rfl : n = l.length := by omega
              have hd9 : decide ((l.length : Int) < (l.length : Int)) = false := decide_eq_false (by omega)
              have HAN := Lib.hid (show (l.take l.length).any (Vn.atP x.at_ key k0) = true by rw [List.take_length]; exact HEX.out)
              rw [HAN.out]
              have x0 := HB16.out.c0
              have x1 := HB16.out.c1
              have x2 := HB16.out.c2
              have p0 := HB2.out.c0
              have p1 := HB2.out.c1
              have p2 := HB2.out.c2
              have f0 := HB2.out.frozen 0
              have f1 := HB2.out.frozen 1
              have f2 := HB2.out.frozen 2
              have l16 := HB16.out.lt
              have l9 := HB2.out.lt
              by_cases hle : x.at_ ≤ t
              · have dl : decide (x.at_ ≤ t) = true := decide_eq_true hle
                have HLS := Lib.hid (show Vn.lastS t Vn.z0 (s.take (j + 1 + 1)) = x by rw [HSTEP.out, if_pos hle])
                have HBX := Lib.hid (HB2.out.setS x)
                have HKX := Lib.hid (below_setS HK2.out (B := w4.heap.size) (Nat.le_refl _) x)
                unfold setS at HBX HKX
                rw [xo] at HBX HKX
                clear hle
                go_wp2_with (fail)
                go_roundw
                case rel => exact ⟨j + 1 + 1, by go_num, by omega, by rw [HLS.out]; exact HBX, HKX⟩
                case measure => first | omega | (simp [intOf]; done) | (simp [intOf]; omega)
              · have dl : decide (x.at_ ≤ t) = false := decide_eq_false hle
                have HLS := Lib.hid (show Vn.lastS t Vn.z0 (s.take (j + 1 + 1)) = la by rw [HSTEP.out, if_neg hle])
                clear hle
                go_wp2_with (fail)
                go_roundw
                case rel => exact ⟨j + 1 + 1, by go_num, by omega, by rw [HLS.out]; exact HB2, HK2⟩
                case measure => first | omega | (simp [intOf]; done) | (simp [intOf]; omega)
            case pos =>
            have hd9 : decide ((n : Int) < (l.length : Int)) = true := decide_eq_true (by omega)
            obtain ⟨A2', c2', e9, hrow2⟩ := id HV.out
            injection e9 with e9 _ e10
            subst e9 e10
            obtain ⟨b2, off2, rfl, hat3⟩ := IsAs_at hrow2 hnl
            have HYY := Lib.hid (hat3.below HK2.out)
            have HAS := Lib.hid (atP_step (u := x.at_) (key := key) (kn := k0) hnl)
            generalize l[n] = y at *
            clear hat3 hrow2
            obtain ⟨fb, hfb⟩ : ∃ f, (l.take n).any (Vn.atP x.at_ key k0) = f := ⟨_, rfl⟩
            rw [hfb] at HAS ⊢
            clear hfb
            have HNY := Lib.hid (BoxA.new wr y)
            have HAL := Lib.hid (al1 wr (.cells #[.int .i64 y.no, .int .i64 y.at_, .int .i64 y.known, .int .i64 y.key, .int .i64 y.value, .bool y.gone] 27))
            have HB16n := Lib.hid (HB16.out.upb HAL.out)
            have HB2n := Lib.hid (HB2.out.upb HAL.out)
            have HK2n := Lib.hid (HK2.out.up HAL.out)
            have q0 := HYY.out.c0
            have q1 := HYY.out.c1
            have q2 := HYY.out.c2
            have q3 := HYY.out.c3
            have q4 := HYY.out.c4
            have q5 := HYY.out.c5
            have n1 := HNY.out.c1
            have n2 := HNY.out.c2
            have n3 := HNY.out.c3
            have x0 := HB16n.out.c0
            have l16 := HB16n.out.lt
            have ly := HNY.out.lt
            cases fb
            case true =>
              have HRES := Lib.hid (show (l.take (n + 1)).any (Vn.atP x.at_ key k0) = true by rw [HAS.out]; rfl)
              go_wp2_with (fail)
              go_roundw
              case rel => exact ⟨n + 1, by go_num, by omega, by rw [HRES.out], HB16n, HB2n, HK2n⟩
              case measure => first | omega | (simp [intOf]; done) | (simp [intOf]; omega)
            case false =>
            cases c1 : (y.at_ == x.at_)
            case false =>
              have HRES := Lib.hid (show (l.take (n + 1)).any (Vn.atP x.at_ key k0) = false by rw [HAS.out]; unfold Vn.atP; rw [decide_eq_false (show ¬ y.at_ = x.at_ by simpa using c1)]; rfl)
              go_wp2_with (fail)
              go_roundw
              case rel => exact ⟨n + 1, by go_num, by omega, by rw [HRES.out], HB16n, HB2n, HK2n⟩
              case measure => first | omega | (simp [intOf]; done) | (simp [intOf]; omega)
            case true =>
            cases c2 : (y.key == key)
            case false =>
              have HRES := Lib.hid (show (l.take (n + 1)).any (Vn.atP x.at_ key k0) = false by rw [HAS.out]; unfold Vn.atP; rw [decide_eq_false (show ¬ y.key = key by simpa using c2)]; simp)
              go_wp2_with (fail)
              go_roundw
              case rel => exact ⟨n + 1, by go_num, by omega, by rw [HRES.out], HB16n, HB2n, HK2n⟩
              case measure => first | omega | (simp [intOf]; done) | (simp [intOf]; omega)
            case true =>
            cases c3 : decide (y.known ≤ k0)
            case false =>
              have HRES := Lib.hid (show (l.take (n + 1)).any (Vn.atP x.at_ key k0) = false by rw [HAS.out]; unfold Vn.atP; rw [c3]; simp)
              go_wp2_with (fail)
              go_roundw
              case rel => exact ⟨n + 1, by go_num, by omega, by rw [HRES.out], HB16n, HB2n, HK2n⟩
              case measure => first | omega | (simp [intOf]; done) | (simp [intOf]; omega)
            case true =>
              have HRES := Lib.hid (show (l.take (n + 1)).any (Vn.atP x.at_ key k0) = true by rw [HAS.out]; unfold Vn.atP; rw [c3, decide_eq_true (show y.key = key by simpa using c2), decide_eq_true (show y.at_ = x.at_ by simpa using c1)]; rfl)
              go_wp2_with (fail)
              go_roundw
              case rel => exact ⟨n + 1, by go_num, by omega, by rw [HRES.out], HB16n, HB2n, HK2n⟩
              case measure => first | omega | (simp [intOf]; done) | (simp [intOf]; omega)
      · cases dv : (x.value == bb.value)
        ·
          have x2 := HB16.out.c2
          rw [xo] at x2
          have p2 := HBF.out.c2
          clear HNE HV0
          go_upto_region 19 with (fail)
          clear x0 x1 x2 p0 p1 p2 l16 l17 HBF
          go_wp2_with (fail)
          go_loopw [18, 141] (fun f i wq => ∃ n : Nat, i = .int .i64 n ∧ n ≤ l.length ∧ f = .bool ((l.take n).any (Vn.atP x.at_ key k0)) ∧ Hid (BoxS wq wr.heap.size x) ∧ Hid (BoxS wq w4.heap.size la) ∧ Hid (Below w4.heap.size w4 wq)) (fun _ i _ => l.length - (intOf i).toNat)
          case atStart => exact ⟨0, rfl, Nat.zero_le _, rfl, HB16, HB2, HK2⟩
          case round =>
            clear HB16 HB2 HK2
            obtain ⟨n, rfl, hn, rfl, HB16, HB2, HK2⟩ := hrel
            by_cases hnl : n < l.length
            case neg =>
              obtain rfl : n = l.length := by omega
              have hd9 : decide ((l.length : Int) < (l.length : Int)) = false := decide_eq_false (by omega)
              have HAN := Lib.hid (show (l.take l.length).any (Vn.atP x.at_ key k0) = true by rw [List.take_length]; exact HEX.out)
              rw [HAN.out]
              have x0 := HB16.out.c0
              have x1 := HB16.out.c1
              have x2 := HB16.out.c2
              have p0 := HB2.out.c0
              have p1 := HB2.out.c1
              have p2 := HB2.out.c2
              have f0 := HB2.out.frozen 0
              have f1 := HB2.out.frozen 1
              have f2 := HB2.out.frozen 2
              have l16 := HB16.out.lt
              have l9 := HB2.out.lt
              by_cases hle : x.at_ ≤ t
              · have dl : decide (x.at_ ≤ t) = true := decide_eq_true hle
                have HLS := Lib.hid (show Vn.lastS t Vn.z0 (s.take (j + 1 + 1)) = x by rw [HSTEP.out, if_pos hle])
                have HBX := Lib.hid (HB2.out.setS x)
                have HKX := Lib.hid (below_setS HK2.out (B := w4.heap.size) (Nat.le_refl _) x)
                unfold setS at HBX HKX
                rw [xo] at HBX HKX
                clear hle
                go_wp2_with (fail)
                go_roundw
                case rel => exact ⟨j + 1 + 1, by go_num, by omega, by rw [HLS.out]; exact HBX, HKX⟩
                case measure => first | omega | (simp [intOf]; done) | (simp [intOf]; omega)
              · have dl : decide (x.at_ ≤ t) = false := decide_eq_false hle
                have HLS := Lib.hid (show Vn.lastS t Vn.z0 (s.take (j + 1 + 1)) = la by rw [HSTEP.out, if_neg hle])
                clear hle
                go_wp2_with (fail)
                go_roundw
                case rel => exact ⟨j + 1 + 1, by go_num, by omega, by rw [HLS.out]; exact HB2, HK2⟩
                case measure => first | omega | (simp [intOf]; done) | (simp [intOf]; omega)
            case pos =>
            have hd9 : decide ((n : Int) < (l.length : Int)) = true := decide_eq_true (by omega)
            obtain ⟨A2', c2', e9, hrow2⟩ := id HV.out
            injection e9 with e9 _ e10
            subst e9 e10
            obtain ⟨b2, off2, rfl, hat3⟩ := IsAs_at hrow2 hnl
            have HYY := Lib.hid (hat3.below HK2.out)
            have HAS := Lib.hid (atP_step (u := x.at_) (key := key) (kn := k0) hnl)
            generalize l[n] = y at *
            clear hat3 hrow2
            obtain ⟨fb, hfb⟩ : ∃ f, (l.take n).any (Vn.atP x.at_ key k0) = f := ⟨_, rfl⟩
            rw [hfb] at HAS ⊢
            clear hfb
            have HNY := Lib.hid (BoxA.new wr y)
            have HAL := Lib.hid (al1 wr (.cells #[.int .i64 y.no, .int .i64 y.at_, .int .i64 y.known, .int .i64 y.key, .int .i64 y.value, .bool y.gone] 27))
            have HB16n := Lib.hid (HB16.out.upb HAL.out)
            have HB2n := Lib.hid (HB2.out.upb HAL.out)
            have HK2n := Lib.hid (HK2.out.up HAL.out)
            have q0 := HYY.out.c0
            have q1 := HYY.out.c1
            have q2 := HYY.out.c2
            have q3 := HYY.out.c3
            have q4 := HYY.out.c4
            have q5 := HYY.out.c5
            have n1 := HNY.out.c1
            have n2 := HNY.out.c2
            have n3 := HNY.out.c3
            have x0 := HB16n.out.c0
            have l16 := HB16n.out.lt
            have ly := HNY.out.lt
            cases fb
            case true =>
              have HRES := Lib.hid (show (l.take (n + 1)).any (Vn.atP x.at_ key k0) = true by rw [HAS.out]; rfl)
              go_wp2_with (fail)
              go_roundw
              case rel => exact ⟨n + 1, by go_num, by omega, by rw [HRES.out], HB16n, HB2n, HK2n⟩
              case measure => first | omega | (simp [intOf]; done) | (simp [intOf]; omega)
            case false =>
            cases c1 : (y.at_ == x.at_)
            case false =>
              have HRES := Lib.hid (show (l.take (n + 1)).any (Vn.atP x.at_ key k0) = false by rw [HAS.out]; unfold Vn.atP; rw [decide_eq_false (show ¬ y.at_ = x.at_ by simpa using c1)]; rfl)
              go_wp2_with (fail)
              go_roundw
              case rel => exact ⟨n + 1, by go_num, by omega, by rw [HRES.out], HB16n, HB2n, HK2n⟩
              case measure => first | omega | (simp [intOf]; done) | (simp [intOf]; omega)
            case true =>
            cases c2 : (y.key == key)
            case false =>
              have HRES := Lib.hid (show (l.take (n + 1)).any (Vn.atP x.at_ key k0) = false by rw [HAS.out]; unfold Vn.atP; rw [decide_eq_false (show ¬ y.key = key by simpa using c2)]; simp)
              go_wp2_with (fail)
              go_roundw
              case rel => exact ⟨n + 1, by go_num, by omega, by rw [HRES.out], HB16n, HB2n, HK2n⟩
              case measure => first | omega | (simp [intOf]; done) | (simp [intOf]; omega)
            case true =>
            cases c3 : decide (y.known ≤ k0)
            case false =>
              have HRES := Lib.hid (show (l.take (n + 1)).any (Vn.atP x.at_ key k0) = false by rw [HAS.out]; unfold Vn.atP; rw [c3]; simp)
              go_wp2_with (fail)
              go_roundw
              case rel => exact ⟨n + 1, by go_num, by omega, by rw [HRES.out], HB16n, HB2n, HK2n⟩
              case measure => first | omega | (simp [intOf]; done) | (simp [intOf]; omega)
            case true =>
              have HRES := Lib.hid (show (l.take (n + 1)).any (Vn.atP x.at_ key k0) = true by rw [HAS.out]; unfold Vn.atP; rw [c3, decide_eq_true (show y.key = key by simpa using c2), decide_eq_true (show y.at_ = x.at_ by simpa using c1)]; rfl)
              go_wp2_with (fail)
              go_roundw
              case rel => exact ⟨n + 1, by go_num, by omega, by rw [HRES.out], HB16n, HB2n, HK2n⟩
              case measure => first | omega | (simp [intOf]; done) | (simp [intOf]; omega)
        ·
          have x2 := HB16.out.c2
          rw [xo] at x2
          have bo : bb.ok = false := by
            cases hb : bb.ok
            · rfl
            · exact absurd (xo.trans hb.symm) (fun e => HNE.out ⟨by simpa using dv, e⟩)
          have p2 := HBF.out.c2
          rw [bo] at p2
          clear HNE HV0
          go_upto_region 19 with (fail)
          clear x0 x1 x2 p0 p1 p2 l16 l17 HBF
          go_wp2_with (fail)
          go_loopw [18, 141] (fun f i wq => ∃ n : Nat, i = .int .i64 n ∧ n ≤ l.length ∧ f = .bool ((l.take n).any (Vn.atP x.at_ key k0)) ∧ Hid (BoxS wq wr.heap.size x) ∧ Hid (BoxS wq w4.heap.size la) ∧ Hid (Below w4.heap.size w4 wq)) (fun _ i _ => l.length - (intOf i).toNat)
          case atStart => exact ⟨0, rfl, Nat.zero_le _, rfl, HB16, HB2, HK2⟩
          case round =>
            clear HB16 HB2 HK2
            obtain ⟨n, rfl, hn, rfl, HB16, HB2, HK2⟩ := hrel
            by_cases hnl : n < l.length
            case neg =>
              obtain rfl : n = l.length := by omega
              have hd9 : decide ((l.length : Int) < (l.length : Int)) = false := decide_eq_false (by omega)
              have HAN := Lib.hid (show (l.take l.length).any (Vn.atP x.at_ key k0) = true by rw [List.take_length]; exact HEX.out)
              rw [HAN.out]
              have x0 := HB16.out.c0
              have x1 := HB16.out.c1
              have x2 := HB16.out.c2
              have p0 := HB2.out.c0
              have p1 := HB2.out.c1
              have p2 := HB2.out.c2
              have f0 := HB2.out.frozen 0
              have f1 := HB2.out.frozen 1
              have f2 := HB2.out.frozen 2
              have l16 := HB16.out.lt
              have l9 := HB2.out.lt
              by_cases hle : x.at_ ≤ t
              · have dl : decide (x.at_ ≤ t) = true := decide_eq_true hle
                have HLS := Lib.hid (show Vn.lastS t Vn.z0 (s.take (j + 1 + 1)) = x by rw [HSTEP.out, if_pos hle])
                have HBX := Lib.hid (HB2.out.setS x)
                have HKX := Lib.hid (below_setS HK2.out (B := w4.heap.size) (Nat.le_refl _) x)
                unfold setS at HBX HKX
                rw [xo] at HBX HKX
                clear hle
                go_wp2_with (fail)
                go_roundw
                case rel => exact ⟨j + 1 + 1, by go_num, by omega, by rw [HLS.out]; exact HBX, HKX⟩
                case measure => first | omega | (simp [intOf]; done) | (simp [intOf]; omega)
              · have dl : decide (x.at_ ≤ t) = false := decide_eq_false hle
                have HLS := Lib.hid (show Vn.lastS t Vn.z0 (s.take (j + 1 + 1)) = la by rw [HSTEP.out, if_neg hle])
                clear hle
                go_wp2_with (fail)
                go_roundw
                case rel => exact ⟨j + 1 + 1, by go_num, by omega, by rw [HLS.out]; exact HB2, HK2⟩
                case measure => first | omega | (simp [intOf]; done) | (simp [intOf]; omega)
            case pos =>
            have hd9 : decide ((n : Int) < (l.length : Int)) = true := decide_eq_true (by omega)
            obtain ⟨A2', c2', e9, hrow2⟩ := id HV.out
            injection e9 with e9 _ e10
            subst e9 e10
            obtain ⟨b2, off2, rfl, hat3⟩ := IsAs_at hrow2 hnl
            have HYY := Lib.hid (hat3.below HK2.out)
            have HAS := Lib.hid (atP_step (u := x.at_) (key := key) (kn := k0) hnl)
            generalize l[n] = y at *
            clear hat3 hrow2
            obtain ⟨fb, hfb⟩ : ∃ f, (l.take n).any (Vn.atP x.at_ key k0) = f := ⟨_, rfl⟩
            rw [hfb] at HAS ⊢
            clear hfb
            have HNY := Lib.hid (BoxA.new wr y)
            have HAL := Lib.hid (al1 wr (.cells #[.int .i64 y.no, .int .i64 y.at_, .int .i64 y.known, .int .i64 y.key, .int .i64 y.value, .bool y.gone] 27))
            have HB16n := Lib.hid (HB16.out.upb HAL.out)
            have HB2n := Lib.hid (HB2.out.upb HAL.out)
            have HK2n := Lib.hid (HK2.out.up HAL.out)
            have q0 := HYY.out.c0
            have q1 := HYY.out.c1
            have q2 := HYY.out.c2
            have q3 := HYY.out.c3
            have q4 := HYY.out.c4
            have q5 := HYY.out.c5
            have n1 := HNY.out.c1
            have n2 := HNY.out.c2
            have n3 := HNY.out.c3
            have x0 := HB16n.out.c0
            have l16 := HB16n.out.lt
            have ly := HNY.out.lt
            cases fb
            case true =>
              have HRES := Lib.hid (show (l.take (n + 1)).any (Vn.atP x.at_ key k0) = true by rw [HAS.out]; rfl)
              go_wp2_with (fail)
              go_roundw
              case rel => exact ⟨n + 1, by go_num, by omega, by rw [HRES.out], HB16n, HB2n, HK2n⟩
              case measure => first | omega | (simp [intOf]; done) | (simp [intOf]; omega)
            case false =>
            cases c1 : (y.at_ == x.at_)
            case false =>
              have HRES := Lib.hid (show (l.take (n + 1)).any (Vn.atP x.at_ key k0) = false by rw [HAS.out]; unfold Vn.atP; rw [decide_eq_false (show ¬ y.at_ = x.at_ by simpa using c1)]; rfl)
              go_wp2_with (fail)
              go_roundw
              case rel => exact ⟨n + 1, by go_num, by omega, by rw [HRES.out], HB16n, HB2n, HK2n⟩
              case measure => first | omega | (simp [intOf]; done) | (simp [intOf]; omega)
            case true =>
            cases c2 : (y.key == key)
            case false =>
              have HRES := Lib.hid (show (l.take (n + 1)).any (Vn.atP x.at_ key k0) = false by rw [HAS.out]; unfold Vn.atP; rw [decide_eq_false (show ¬ y.key = key by simpa using c2)]; simp)
              go_wp2_with (fail)
              go_roundw
              case rel => exact ⟨n + 1, by go_num, by omega, by rw [HRES.out], HB16n, HB2n, HK2n⟩
              case measure => first | omega | (simp [intOf]; done) | (simp [intOf]; omega)
            case true =>
            cases c3 : decide (y.known ≤ k0)
            case false =>
              have HRES := Lib.hid (show (l.take (n + 1)).any (Vn.atP x.at_ key k0) = false by rw [HAS.out]; unfold Vn.atP; rw [c3]; simp)
              go_wp2_with (fail)
              go_roundw
              case rel => exact ⟨n + 1, by go_num, by omega, by rw [HRES.out], HB16n, HB2n, HK2n⟩
              case measure => first | omega | (simp [intOf]; done) | (simp [intOf]; omega)
            case true =>
              have HRES := Lib.hid (show (l.take (n + 1)).any (Vn.atP x.at_ key k0) = true by rw [HAS.out]; unfold Vn.atP; rw [c3, decide_eq_true (show y.key = key by simpa using c2), decide_eq_true (show y.at_ = x.at_ by simpa using c1)]; rfl)
              go_wp2_with (fail)
              go_roundw
              case rel => exact ⟨n + 1, by go_num, by omega, by rw [HRES.out], HB16n, HB2n, HK2n⟩
              case measure => first | omega | (simp [intOf]; done) | (simp [intOf]; omega)
end Go.Proofs.Ytcifhigeieoogaa

/- Walk of VersionsOrder. -/
import Derived.Test.YtcifhigeieoogaaW22
import Derived.Test.YtcifhigeieoogaaL1
import Derived.BigRegion
import Derived.Deep.Cut
import Derived.Deep.CutRange
namespace Go.Proofs.Ytcifhigeieoogaa
open Go.RowKit
set_option linter.unusedVariables false
set_option linter.unusedSimpArgs false
attribute [local go_sem] frozen_new
theorem ownA_frozen {W : World} {base g n c : Nat} {xs : List Am} (h : OwnAs W base (.slice (some ⟨g, 0, none⟩) n c) xs) (j : Nat) : W.frozen? ⟨g, j, none⟩ = false := by
  obtain ⟨A0, c0, e0⟩ := OwnAs.slice h
  injection e0 with _ e0 _
  subst e0
  exact World.ownsRow.frozenAt h j
theorem ownA_at {W : World} {base g n c : Nat} {xs : List Am} (h : OwnAs W base (.slice (some ⟨g, 0, none⟩) n c) xs) {k : Nat} (hk : k < xs.length) : AtA W g (k * 6) xs[k] := by
  obtain ⟨A7, c7, e7, hrow⟩ := h.is
  injection e7 with e7 _ _
  subst e7
  obtain ⟨b7, off7, e6, hat⟩ := IsAs_at hrow hk
  injection e6 with e6
  injection e6 with e61 e62
  subst e61 e62
  rwa [Nat.zero_add] at hat
theorem swap_place {k n : Nat} {y : Int} (hk : k < n) (hy : 0 ≤ y) (hn : n ≤ 30) : ∃ m : Nat, k ≤ m ∧ m < n ∧ wrap64 ((k : Int) + y % ((n : Int) - (k : Int))) = (m : Int) := by
  have h1 := Int.emod_nonneg y (show (n : Int) - (k : Int) ≠ 0 by omega)
  have h2 := Int.emod_lt_of_pos y (show (0 : Int) < (n : Int) - (k : Int) by omega)
  refine ⟨k + (y % ((n : Int) - (k : Int))).toNat, by omega, by omega, ?_⟩
  rw [IntWalk.wrap64_in _ (by omega)]
  omega

set_option maxHeartbeats 8000000 in
set_option maxRecDepth 100000 in
theorem VersionsOrder_any {v u : Value} {l : List Am} {bs : List Int} {key t k0 : Int} {w : World} (hv : IsAs w v l) (hu : IsU8 w u bs) (hbs : ∀ y ∈ bs, 0 ≤ y ∧ y ≤ 255) (hl : l.length ≤ 9223372036854775807) (hbl : bs.length ≤ 9223372036854775807) : Calls Try.prog 3 #[v, u, .int .i64 key, .int .i64 t, .int .i64 k0] w (BPost true w) := by
  have HV := Lib.hid hv
  have HU := Lib.hid hu
  have HBS := Lib.hid hbs
  obtain ⟨A, cap, rfl, _⟩ := id hv
  obtain ⟨A2, cap2, rfl, _⟩ := id hu
  clear hv hu hbs
  have HW := Lib.hid (Bl.mk (Below.refl w.heap.size w))
  go_enter Try.func3, Try.ntmps3
  go_wp2_with (fail)
  refine (sane_any _).mono ?_
  rintro e w1 ⟨rfl, hb⟩
  replace HW := Lib.hid (HW.out.upb hb)
  replace HV := Lib.hid (HV.out.upb hb)
  replace HU := Lib.hid (HU.out.upb hb)
  clear hb
  go_wp2_with (fail)
  obtain ⟨rb, hrb⟩ : ∃ b, Vn.rtB l = b := ⟨_, rfl⟩
  refine (rt_is hrb HV.out hl).mono ?_
  rintro e w2 ⟨rfl, hb⟩
  replace HW := Lib.hid (HW.out.upb hb)
  replace HV := Lib.hid (HV.out.upb hb)
  replace HU := Lib.hid (HU.out.upb hb)
  clear hb
  cases rb with
  | false =>
    go_wp2_with (fail)
    go_ret
    exact ⟨rfl, HW.out.b⟩
  | true =>
  obtain ⟨hl30, he0⟩ := rt_iff hrb
  have HOK := Lib.hid ((Vn.err_iff l).1 he0)
  clear hrb he0
  have HE0 := Lib.hid (OwnAs.empty w2 w2.heap.size (Nat.le_refl _))
  have HV0 := Lib.hid (HV.out.upb (al1 w2 (.cells #[] 27)))
  have hl3 : ([] : List Am).length + l.length ≤ 1000000 := by simp; omega
  have hs3 : w2.heap.size ≤ (w2.alloc (.cells #[] 27)).heap.size := by rw [World.size_alloc]; omega
  go_upto_region 5 with (fail)
  go_cut [11] from 37 (fun s11 wx => ∃ A1 c1, s11 = .slice A1 l.length c1 ∧ Hid (OwnAs wx w2.heap.size (.slice A1 l.length c1) l) ∧ Hid (Below w2.heap.size w2 wx))
  case first =>
    cases A with
    | none =>
      have hl0 : l = [] := by
        cases l with
        | nil => rfl
        | cons x r =>
          obtain ⟨_, _, e, hr⟩ := HV.out
          injection e with e1 e2 e3
          subst e1
          obtain ⟨b, off, e, _⟩ := hr (by simp [encA])
          cases e
      subst hl0
      go_wp2_with (fail)
      go_meet
      case rel => exact ⟨_, _, rfl, HE0, Lib.hid (al1 w2 _)⟩
    | some ad =>
      go_wp2_with (at_builtin; go_must (refine wpList_cloneA rfl (.tmp 34) (.tmp 35) rfl w2.heap.size rfl rfl l ad l.length cap rfl HV.out (by omega) ?_); intro v1 w3 hown1 hb1; obtain ⟨A1, c1, rfl⟩ := OwnAs.slice hown1; have HO := Lib.hid hown1; have HB3 := Lib.hid hb1; clear hown1 hb1)
      go_meet
      case rel => exact ⟨_, _, rfl, HO, HB3⟩
  case rest =>
  obtain ⟨A1, c1, rfl, HO, HB3⟩ := hcut
  clear HE0 HV0 hl3 hs3
  have HT0 := Lib.hid (show Vn.Turned l l from ⟨List.Perm.refl _, HOK.out⟩)
  go_wp2_with (fail)
  go_loopw [39] (fun i wr => ∃ (k : Nat) (xs : List Am), i = .int .i64 k ∧ k ≤ bs.length ∧ Hid (Vn.Turned l xs) ∧ Hid (OwnAs wr w2.heap.size (.slice A1 l.length c1) xs) ∧ Hid (Below w2.heap.size w2 wr)) (fun i _ => bs.length - (intOf i).toNat)
  case atStart => exact ⟨0, l, rfl, Nat.zero_le _, HT0, HO, HB3⟩
  case round =>
    clear HT0 HO HB3
    obtain ⟨k, xs, rfl, hk, HT, HO, HB⟩ := hrel
    by_cases hlt : k < bs.length
    case neg =>
      obtain rfl : k = bs.length := by omega
      have hd1 : decide ((bs.length : Int) < (bs.length : Int)) = false := decide_eq_false (by omega)
      obtain ⟨W7, hW7⟩ : ∃ W, W = wr := ⟨_, rfl⟩
      subst hW7
      have HX0 := Lib.hid HO.out.is
      have HV1 := Lib.hid (HV.out.upb HB.out)
      have HW1 := Lib.hid (HW.out.upb HB.out)
      have hxl : xs.length = l.length := HT.out.len
      have HE1 := Lib.hid (IsAs.nil (w := W7))
      have HR1 := Lib.hid (Below.refl W7.heap.size W7)
      go_wp2_with (fail)
      go_loopw [15, 74] (fun v i wr => ∃ (n : Nat) (A3 : Option Addr) (c3 : Nat) (M : List Am), i = .int .i64 n ∧ n ≤ l.length ∧ v = .slice A3 M.length c3 ∧ Hid (M = Vn.addAll (xs.take n)) ∧ Hid (IsAs wr (.slice A3 M.length c3) M) ∧ Hid (Below W7.heap.size W7 wr)) (fun _ i _ => l.length - (intOf i).toNat)
      case atStart => exact ⟨0, none, 0, [], rfl, Nat.zero_le _, rfl, Lib.hid rfl, HE1, HR1⟩
      case round =>
        clear HE1 HR1
        obtain ⟨n, A3, c3, M, rfl, hn, rfl, HME, HM, HBq⟩ := hrel
        have HMF := Lib.hid (Vn.addAll_facts HT.out n (by omega))
        by_cases hlt : n < l.length
        case neg =>
          obtain rfl : n = l.length := by omega
          have hd2 : decide ((l.length : Int) < (l.length : Int)) = false := decide_eq_false (by omega)
          have hMl : M = l := by rw [HME.out, ← hxl]; exact Vn.addAll_all HT.out
          subst hMl
          clear HME HMF
          obtain ⟨W8, hW8⟩ : ∃ W, W = wr := ⟨_, rfl⟩
          subst hW8
          have HV2 := Lib.hid (HV1.out.upb HBq.out)
          have HW2 := Lib.hid (HW1.out.upb HBq.out)
          clear hxl
          have HE2 := Lib.hid (OwnAs.nil W8 W8.heap.size)
          have HR2 := Lib.hid (Below.refl W8.heap.size W8)
          go_wp2_with (fail)
          go_loopw [16, 90] (fun v i wr => ∃ (n : Nat) (A4 : Option Addr) (c4 : Nat) (M2 : List Am), i = .int .i64 n ∧ n ≤ M.length ∧ v = .slice A4 M2.length c4 ∧ Hid (M2 = Vn.ownK (M.take n) key) ∧ Hid (OwnAs wr W8.heap.size (.slice A4 M2.length c4) M2) ∧ Hid (Below W8.heap.size W8 wr)) (fun _ i _ => M.length - (intOf i).toNat)
          case atStart => exact ⟨0, none, 0, [], rfl, Nat.zero_le _, rfl, Lib.hid rfl, HE2, HR2⟩
          case round =>
            clear HE2 HR2
            obtain ⟨n, A4, c4, M2, rfl, hn2, rfl, HME, HO2, HBr⟩ := hrel
            by_cases hlt : n < M.length
            case neg =>
              obtain rfl : n = M.length := by omega
              have hd3 : decide ((M.length : Int) < (M.length : Int)) = false := decide_eq_false (by omega)
              have hM2 : M2 = Vn.ownK M key := by rw [HME.out, List.take_length]
              have HOWN := Lib.hid (hM2 ▸ Vn.ownK_val HOK.out key t k0)
              have hM2l : M2.length ≤ 9223372036854775807 := by rw [hM2]; exact Nat.le_trans (List.length_filter_le _ _) hl
              have HV3 := Lib.hid (HV2.out.upb HBr.out)
              have HM3 := Lib.hid (HM.out.upb HBr.out)
              have HW3 := Lib.hid (HW2.out.upb HBr.out)
              have HO3 := Lib.hid HO2.out.is
              obtain ⟨z1, hz1⟩ : ∃ z, Vn.valE M key t k0 = z := ⟨_, rfl⟩
              obtain ⟨v1, hv1⟩ : ∃ z, (Vn.val M key t k0).1 = z := ⟨_, rfl⟩
              obtain ⟨b1, hb1⟩ : ∃ z, (Vn.val M key t k0).2 = z := ⟨_, rfl⟩
              have HA := Lib.hid (show Vn.valE M key t k0 = z1 ∧ Vn.val M key t k0 = (v1, b1) from ⟨hz1, by rw [← hv1, ← hb1]⟩)
              have HA2 := Lib.hid (show Vn.valE M2 key t k0 = z1 ∧ Vn.val M2 key t k0 = (v1, b1) from ⟨HOWN.out.1.trans HA.out.1, HOWN.out.2.trans HA.out.2⟩)
              have h11 : (v1 == v1) = true := beq_self_eq_true _
              have h12 : (z1 == z1) = true := beq_self_eq_true _
              have h14 : (b1 == b1) = true := by cases b1 <;> rfl
              clear hz1 hv1 hb1 hM2 HME HOWN HV2 HM HW2 HO2 HX0 HV1 HW1
              have HL1 := Lib.hid hl
              have HL2 := Lib.hid hM2l
              clear hM2l
              go_wp2_with (fail)
              refine (Value_is HA.out.1 HA.out.2 HV3.out HL1.out).mono ?_
              rintro e w5 ⟨rfl, hb⟩
              have HV4 := Lib.hid (HV3.out.upb hb)
              have HM4 := Lib.hid (HM3.out.upb hb)
              have HW4 := Lib.hid (HW3.out.upb hb)
              have HO4 := Lib.hid (HO3.out.upb hb)
              clear hb
              go_wp2_with (fail)
              refine (Value_is HA2.out.1 HA2.out.2 HO4.out HL2.out).mono ?_
              rintro e w6 ⟨rfl, hb⟩
              have HV5 := Lib.hid (HV4.out.upb hb)
              have HM5 := Lib.hid (HM4.out.upb hb)
              have HW5 := Lib.hid (HW4.out.upb hb)
              clear hb
              go_wp2_with (fail)
              refine (same_b (decide_eq_true rfl) HM5.out HV5.out HL1.out HL1.out).mono ?_
              rintro e w7 ⟨rfl, hb⟩
              have HW6 := Lib.hid (HW5.out.upb hb)
              clear hb
              go_wp2_with (fail)
              go_ret
              exact ⟨rfl, HW6.out.b⟩
            case pos =>
              have hd3 : decide ((n : Int) < (M.length : Int)) = true := decide_eq_true (by omega)
              have HSU := Lib.hid (Vn.ownK_succ hlt key)
              rw [← HME.out] at HSU
              have hM2s : M2.length ≤ 1000000 := by
                rw [HME.out]
                refine Nat.le_trans (List.length_filter_le _ _) ?_
                rw [List.length_take]
                omega
              obtain ⟨A', c', e9, hrow⟩ := HV2.out.upb HBr.out
              injection e9 with e9 e9b e10
              clear e9b
              subst e9 e10
              obtain ⟨b', off', rfl, hat⟩ := IsAs_at hrow hlt
              have HY := Lib.hid hat
              clear hat hrow
              generalize M[n] = y at *
              have HNY := Lib.hid (BoxA.new wr y)
              have HAL := Lib.hid (al1 wr (.cells #[.int .i64 y.no, .int .i64 y.at_, .int .i64 y.known, .int .i64 y.key, .int .i64 y.value, .bool y.gone] 27))
              have HO3 := Lib.hid (HO2.out.upb HAL.out)
              have HBr2 := Lib.hid (HBr.out.up HAL.out)
              have q0 := HY.out.c0
              have q1 := HY.out.c1
              have q2 := HY.out.c2
              have q3 := HY.out.c3
              have q4 := HY.out.c4
              have q5 := HY.out.c5
              have n0 := HNY.out.c0
              have n1 := HNY.out.c1
              have n2 := HNY.out.c2
              have n3 := HNY.out.c3
              have n4 := HNY.out.c4
              have n5 := HNY.out.c5
              have HMS := Lib.hid hM2s
              clear hM2s
              by_cases hky : y.key = key
              case neg =>
                have hd4 : (y.key == key) = false := by rw [beq_eq_false_iff_ne]; exact hky
                have HK := Lib.hid hky
                clear hky
                go_wp2_with (fail)
                go_roundw
                case rel => exact ⟨n + 1, A4, c4, M2, by go_num, by omega, rfl, Lib.hid (by rw [HSU.out, if_neg HK.out]), HO3, HBr2⟩
                case measure => first | omega | (simp [intOf]; done) | (simp [intOf]; omega)
              case pos =>
                have hd4 : (y.key == key) = true := by rw [beq_iff_eq]; exact hky
                have HK := Lib.hid hky
                clear hky
                go_wp2_with (at_builtin; go_must (refine wpList_pushA rfl (.tmp 98) (.tmp 100) rfl W8.heap.size _ M2 rfl HO3.out y (wr.heap.size + 1) (World.size_alloc _ _) rfl HMS.out HBr2.out.size ?_); intro v1 w5 hown1 hg1 hat1; obtain ⟨A5, c5, rfl⟩ := OwnAs.slice hown1; have HO5 := Lib.hid hown1; have HB5 := Lib.hid (HBr2.out.grown hg1 HBr2.out.size (fun g hg => (OwnAs.at HO3.out g hg).1)); clear hown1 hat1 hg1)
                go_roundw
                case rel => exact ⟨n + 1, A5, c5, M2 ++ [y], by go_num, by omega, by simp, Lib.hid (by rw [HSU.out, if_pos HK.out]), HO5, HB5⟩
                case measure => first | omega | (simp [intOf]; done) | (simp [intOf]; omega)
        case pos =>
          have hd2 : decide ((n : Int) < (l.length : Int)) = true := decide_eq_true (by omega)
          have hlx : n < xs.length := by omega
          have HOK2 := Lib.hid (Vn.addAll_ok HT.out hlx)
          have hMn : M.length ≤ 9223372036854775807 := by rw [HME.out, HMF.out.2.1]; omega
          rw [← HME.out] at HOK2
          obtain ⟨A', c', e9, hrow⟩ := HX0.out.upb HBq.out
          injection e9 with e9 e9b e10
          clear e9b
          subst e9 e10
          obtain ⟨b', off', rfl, hat⟩ := IsAs_at hrow hlx
          have HY := Lib.hid hat
          clear hat hrow
          generalize xs[n] = y at *
          have HNY := Lib.hid (BoxA.new wr y)
          have HAL := Lib.hid (al1 wr (.cells #[.int .i64 y.no, .int .i64 y.at_, .int .i64 y.known, .int .i64 y.key, .int .i64 y.value, .bool y.gone] 27))
          have HM2 := Lib.hid (HM.out.upb HAL.out)
          have HBq2 := Lib.hid (HBq.out.up HAL.out)
          have q0 := HY.out.c0
          have q1 := HY.out.c1
          have q2 := HY.out.c2
          have q3 := HY.out.c3
          have q4 := HY.out.c4
          have q5 := HY.out.c5
          have n0 := HNY.out.c0
          have n1 := HNY.out.c1
          have n2 := HNY.out.c2
          have n3 := HNY.out.c3
          have n4 := HNY.out.c4
          have n5 := HNY.out.c5
          have HMN := Lib.hid hMn
          clear hxl hlx hMn hn
          go_wp2_with (fail)
          refine (Add_is HOK2.out.1 HOK2.out.2 HM2.out HMN.out).mono ?_
          rintro e w5 ⟨A5, c5, rfl, hg, hb⟩
          have HG := Lib.hid hg
          have HBB := Lib.hid hb
          clear hg hb
          go_wp2_with (fail)
          go_roundw
          case rel => exact ⟨n + 1, A5, c5, _, by go_num, by omega, rfl, Lib.hid rfl, HG, Lib.hid (HBq2.out.up HBB.out)⟩
          case measure => first | omega | (simp [intOf]; done) | (simp [intOf]; omega)
    case pos =>
    have hd1 : decide ((k : Int) < (bs.length : Int)) = true := decide_eq_true (by omega)
    obtain ⟨A9, c9, e9, hr⟩ := HU.out.upb HB.out
    injection e9 with e1 _ e2
    subst e1 e2
    obtain ⟨b, off, rfl, hb, hc⟩ := hr (by intro h0; simp at h0; subst h0; simp at hlt)
    have qc := hc k (by simpa using hlt)
    simp only [List.getElem_map] at qc
    obtain ⟨hy0, hy1⟩ := HBS.out bs[k] (List.getElem_mem hlt)
    generalize bs[k] = y at *
    clear hr hc
    by_cases hkl : k < l.length
    case neg =>
      have hd2 : decide ((k : Int) < (l.length : Int)) = false := decide_eq_false (by omega)
      have hd3 : decide (k < l.length) = false := decide_eq_false hkl
      go_wp2_with (fail)
      go_roundw
      case rel => exact ⟨k + 1, xs, by go_num, by omega, HT, HO, HB⟩
      case measure => first | omega | (simp [intOf]; done) | (simp [intOf]; omega)
    case pos =>
    have hd2 : decide ((k : Int) < (l.length : Int)) = true := decide_eq_true (by omega)
    obtain ⟨gg, cc, e8, hg1, hg2⟩ := own_form HO.out (by rw [HT.out.len]; omega)
    injection e8 with e8 e8b e8c
    subst e8
    clear e8b e8c
    obtain ⟨m, hkm, hml, hsum⟩ := swap_place hkl hy0 hl30
    have hnz : (l.length : Int) - (k : Int) ≠ 0 := by omega
    have hwl : (0 : Int) < (l.length : Int) - (k : Int) := by omega
    have hww : IntKind.i64.wrap y = y := by rw [IntKind.wrap_i64]; omega
    have HSUM := Lib.hid hsum
    clear hsum
    go_upto_region 11 with (fail)
    rw [HSUM.out]
    clear hnz hwl hww HSUM qc hd2
    have hkx : k < xs.length := by rw [HT.out.len]; exact hkl
    have hmx : m < xs.length := by rw [HT.out.len]; exact hml
    have HAK := Lib.hid (ownA_at HO.out hkx)
    have HAM := Lib.hid (ownA_at HO.out hmx)
    have HSW := Lib.hid (show Vn.Turned l (Vn.swap xs k m) from ⟨(Vn.swap_perm hkx hkm hmx).trans HT.out.perm, HT.out.ok⟩)
    have HEQ := Lib.hid (Vn.swap_eq hkx hmx)
    have HO' : OwnAs wr w2.heap.size (.slice (some ⟨gg, 0, none⟩) xs.length c1) xs := by rw [HT.out.len]; exact HO.out
    have HO1 := ownA_setE HO' hkx xs[m]
    rw [show xs.length = (xs.set k xs[m]).length from List.length_set.symm] at HO1
    have HO2 := ownA_setE HO1 (show m < (xs.set k xs[m]).length by rw [List.length_set]; exact hmx) xs[k]
    rw [List.length_set, HT.out.len, ← HEQ.out] at HO2
    have HOS := Lib.hid HO2
    have HBS2 := Lib.hid (below_setE (below_setE HB.out hg1 k xs[m]) hg1 m xs[k])
    clear HO' HO1 HO2 HEQ
    have HXM := Lib.hid (show k = m → xs[m] = xs[k] from by intro h; subst h; rfl)
    generalize xs[k] = xk at *
    generalize xs[m] = xm at *
    have hkl2 : (k : Int) < (l.length : Int) := by omega
    have hml2 : (m : Int) < (l.length : Int) := by omega
    have q0 := HAK.out.c0
    have q1 := HAK.out.c1
    have q2 := HAK.out.c2
    have q3 := HAK.out.c3
    have q4 := HAK.out.c4
    have q5 := HAK.out.c5
    have r0 := HAM.out.c0
    have r1 := HAM.out.c1
    have r2 := HAM.out.c2
    have r3 := HAM.out.c3
    have r4 := HAM.out.c4
    have r5 := HAM.out.c5
    have fk0 := ownA_frozen HO.out (k * 6)
    have fk1 := ownA_frozen HO.out (k * 6 + 1)
    have fk2 := ownA_frozen HO.out (k * 6 + 2)
    have fk3 := ownA_frozen HO.out (k * 6 + 3)
    have fk4 := ownA_frozen HO.out (k * 6 + 4)
    have fk5 := ownA_frozen HO.out (k * 6 + 5)
    have fm0 := ownA_frozen HO.out (m * 6)
    have fm1 := ownA_frozen HO.out (m * 6 + 1)
    have fm2 := ownA_frozen HO.out (m * 6 + 2)
    have fm3 := ownA_frozen HO.out (m * 6 + 3)
    have fm4 := ownA_frozen HO.out (m * 6 + 4)
    have fm5 := ownA_frozen HO.out (m * 6 + 5)
    unfold setE at HOS HBS2
    by_cases hkm2 : k = m
    case pos =>
      subst hkm2
      obtain rfl := HXM.out rfl
      clear HXM
      go_region
      obtain ⟨X, hX⟩ : ∃ X, setE (setE wr gg k xm) gg k xm = X := ⟨_, rfl⟩
      unfold setE at hX
      rw [hX] at HOS HBS2 ⊢
      clear hX
      go_wp2_with (fail)
      go_roundw
      case rel => exact ⟨k + 1, Vn.swap xs k k, by go_num, by omega, HSW, Lib.hid (HOS.out.drewN 1), Lib.hid (below_drewN HBS2.out 1)⟩
      case measure => first | omega | (simp [intOf]; done) | (simp [intOf]; omega)
    case neg =>
      clear HXM
      go_region
      obtain ⟨X, hX⟩ : ∃ X, setE (setE wr gg k xm) gg m xk = X := ⟨_, rfl⟩
      unfold setE at hX
      rw [hX] at HOS HBS2 ⊢
      clear hX
      go_wp2_with (fail)
      go_roundw
      case rel => exact ⟨k + 1, Vn.swap xs k m, by go_num, by omega, HSW, Lib.hid (HOS.out.drewN 1), Lib.hid (below_drewN HBS2.out 1)⟩
      case measure => first | omega | (simp [intOf]; done) | (simp [intOf]; omega)
end Go.Proofs.Ytcifhigeieoogaa

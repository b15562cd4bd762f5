/- The statement HouseEnds, walked. -/
import Derived.Test.YtninnpcggeofmaaL7
import Derived.Test.YtninnpcggeofmaaPlain8
import Derived.Deep.Cut
namespace Go.Proofs.Ytninnpcggeofmaa
open Go.RowKit
set_option linter.unusedVariables false
set_option linter.unusedSimpArgs false
attribute [local go_sem] frozen_new

def RowF (W : World) (B : Nat) (a0 a1 a2 a3 : Int) : Prop := W.heap[B]? = some (.cells #[.int .i64 a0, .int .i64 a1, .int .i64 a2, .int .i64 a3] 3 (0, 0))
theorem RowF.lt {W : World} {B : Nat} {a0 a1 a2 a3 : Int} (hb : RowF W B a0 a1 a2 a3) : B < W.heap.size := (Array.getElem?_eq_some_iff.1 hb).1
theorem RowF.upb {W W' : World} {B : Nat} {a0 a1 a2 a3 : Int} (hb : RowF W B a0 a1 a2 a3) (hk : Below W.heap.size W W') : RowF W' B a0 a1 a2 a3 := (hk.block B hb.lt).trans hb
theorem RowF.new (W : World) (a0 a1 a2 a3 : Int) : RowF (W.alloc (.cells #[.int .i64 a0, .int .i64 a1, .int .i64 a2, .int .i64 a3] 3)) W.heap.size a0 a1 a2 a3 := World.alloc_heap_new W _
theorem RowF.bg {W : World} {B : Nat} {x : Hh} (hb : RowF W B (x.fst - 1) x.fst (x.lst - 1) x.lst) (i : Nat) (hi : i < 4) : W.cell? ⟨B, i, none⟩ = some (.int .i64 (bgF x i)) := by
  rw [World.cell?]
  simp only [show W.heap[B]? = _ from hb]
  match i, hi with
  | 0, _ => rfl
  | 1, _ => rfl
  | 2, _ => rfl
  | 3, _ => rfl
theorem RowF.at_ {W : World} {B : Nat} {x : Hh} (hb : RowF W B (x.frm - 1) x.frm (x.unt - 1) x.unt) (i : Nat) (hi : i < 4) : W.cell? ⟨B, i, none⟩ = some (.int .i64 (atF x i)) := by
  rw [World.cell?]
  simp only [show W.heap[B]? = _ from hb]
  match i, hi with
  | 0, _ => rfl
  | 1, _ => rfl
  | 2, _ => rfl
  | 3, _ => rfl

set_option maxHeartbeats 8000000 in
set_option maxRecDepth 100000 in
theorem HouseEnds_any (x : Hh) (spk lang : Int) (w : World) : Calls Try.prog 6 #[vH x, .int .i64 spk, .int .i64 lang] w fun e w' => e = .returned (.bool true) ∧ Below w.heap.size w w' := by
  have HX0 := Lib.hid (BoxH.new w x)
  have HB0 := Lib.hid (al1 w (.cells #[.int .i64 x.no, .int .i64 x.kind, .int .i64 x.spk, .int .i64 x.fst, .int .i64 x.lst, .int .i64 x.lang, .int .i64 x.frm, .int .i64 x.unt, .int .i64 x.known, .int .i64 x.ms] 24))
  have hxx : vH x = vH x := rfl
  unfold vH
  clear hxx
  go_enter Try.func6, Try.ntmps6
  go_wp2_with (fail)
  refine (sane35_any _).mono ?_
  rintro e w1 ⟨rfl, b1⟩
  have HB1 := Lib.hid (HB0.out.up b1)
  have HX1 := Lib.hid (HX0.out.upb b1)
  clear b1 HB0 HX0
  have q0 := HX1.out.c0
  have q1 := HX1.out.c1
  have q2 := HX1.out.c2
  have q3 := HX1.out.c3
  have q4 := HX1.out.c4
  have q5 := HX1.out.c5
  have q6 := HX1.out.c6
  have q7 := HX1.out.c7
  have q8 := HX1.out.c8
  have q9 := HX1.out.c9
  go_wp2_with (fail)
  cases hr : Hh.right x
  · refine (refRight_is hr _).mono ?_
    rintro e w2 ⟨rfl, bb⟩
    have HB2 := Lib.hid (HB1.out.up bb)
    have HX2 := Lib.hid (HX1.out.upb bb)
    clear bb HB1 HX1 q0 q1 q2 q3 q4 q5 q6 q7 q8 q9
    have q0 := HX2.out.c0
    have q1 := HX2.out.c1
    have q2 := HX2.out.c2
    have q3 := HX2.out.c3
    have q4 := HX2.out.c4
    have q5 := HX2.out.c5
    have q6 := HX2.out.c6
    have q7 := HX2.out.c7
    have q8 := HX2.out.c8
    have q9 := HX2.out.c9
    have hE := Lib.hid (show Hh.covE x ⟨spk, 0, lang, 0, 0⟩ = 350 by unfold Hh.covE; rw [hr]; rfl)
    have hC := Lib.hid (show Hh.err [x] = 350 by unfold Hh.err Hh.incr; rw [hr]; rfl)
    clear hr
    go_wp2_with (fail)
    refine (Covers_is (h := x) (q := ⟨spk, 0, lang, 0, 0⟩) rfl hE.out _).mono ?_
    rintro e w3 ⟨rfl, bb⟩
    have HB3 := Lib.hid (HB2.out.up bb)
    have HX3 := Lib.hid (HX2.out.upb bb)
    clear bb HB2 HX2 q0 q1 q2 q3 q4 q5 q6 q7 q8 q9
    have q0 := HX3.out.c0
    have q1 := HX3.out.c1
    have q2 := HX3.out.c2
    have q3 := HX3.out.c3
    have q4 := HX3.out.c4
    have q5 := HX3.out.c5
    have q6 := HX3.out.c6
    have q7 := HX3.out.c7
    have q8 := HX3.out.c8
    have q9 := HX3.out.c9
    go_wp2_with (fail)
    refine (Check_is hC.out (hs_lit w3 [x] 1 _ rfl rfl) (by simp)).mono ?_
    rintro e w4 ⟨rfl, bb⟩
    have HB4 := Lib.hid ((HB3.out.up (al1 w3 (.cells #[.int .i64 x.no, .int .i64 x.kind, .int .i64 x.spk, .int .i64 x.fst, .int .i64 x.lst, .int .i64 x.lang, .int .i64 x.frm, .int .i64 x.unt, .int .i64 x.known, .int .i64 x.ms] 24))).up bb)
    clear bb HB3 HX3 q0 q1 q2 q3 q4 q5 q6 q7 q8 q9
    go_wp2_with (fail)
    go_ret
    exact ⟨rfl, HB4.out⟩
  refine (refRight_is hr _).mono ?_
  rintro e w2 ⟨rfl, bb⟩
  have HB2 := Lib.hid (HB1.out.up bb)
  have HX2 := Lib.hid (HX1.out.upb bb)
  have HR := Lib.hid hr
  clear bb HB1 HX1 q0 q1 q2 q3 q4 q5 q6 q7 q8 q9 hr
  have q0 := HX2.out.c0
  have q1 := HX2.out.c1
  have q2 := HX2.out.c2
  have q3 := HX2.out.c3
  have q4 := HX2.out.c4
  have q5 := HX2.out.c5
  have q6 := HX2.out.c6
  have q7 := HX2.out.c7
  have q8 := HX2.out.c8
  have q9 := HX2.out.c9
  go_wp2_with (fail)
  cases hsp : Hh.inn spk 0 63
  · refine (refSpeaker_is hsp _).mono ?_
    rintro e _ ⟨rfl, rfl⟩
    go_wp2_with (fail)
    go_ret
    exact ⟨rfl, HB2.out⟩
  refine (refSpeaker_is hsp _).mono ?_
  rintro e _ ⟨rfl, rfl⟩
  go_wp2_with (fail)
  cases hlg : Hh.inn lang 0 31
  · refine (refLanguage_is hlg _).mono ?_
    rintro e _ ⟨rfl, rfl⟩
    go_wp2_with (fail)
    go_ret
    exact ⟨rfl, HB2.out⟩
  refine (refLanguage_is hlg _).mono ?_
  rintro e _ ⟨rfl, rfl⟩
  have HS := Lib.hid hsp
  have HL := Lib.hid hlg
  clear hsp hlg
  have RT := (Hh.right_iff x).1 HR.out
  have w1 : IntKind.i64.wrap (x.fst - 1) = x.fst - 1 := by have := RT.fst; rw [IntKind.wrap_i64]; omega
  have w2' : IntKind.i64.wrap (x.lst - 1) = x.lst - 1 := by have := RT.fst; rw [IntKind.wrap_i64]; omega
  have w3' : IntKind.i64.wrap (x.frm - 1) = x.frm - 1 := by have := RT.frm; rw [IntKind.wrap_i64]; omega
  have w4' : IntKind.i64.wrap (x.unt - 1) = x.unt - 1 := by have := RT.frm; rw [IntKind.wrap_i64]; omega
  have HC0 := Lib.hid (show Hh.err [x] = 0 by
    have h1 : Hh.incr (-1) [x] = true := by
      have := RT.no
      simp only [Hh.incr, HR.out, Bool.true_and, Bool.and_true, decide_eq_true_eq]
      omega
    unfold Hh.err
    rw [if_neg (by simp), if_pos h1])
  clear RT
  have HX2n := Lib.hid (HX2.out.upb (al1 w2 (.cells #[.int .i64 (x.fst - 1), .int .i64 x.fst, .int .i64 (x.lst - 1), .int .i64 x.lst] 3)))
  have t0 := HX2n.out.c0
  have t1 := HX2n.out.c1
  have t2 := HX2n.out.c2
  have t3 := HX2n.out.c3
  have t4 := HX2n.out.c4
  have t5 := HX2n.out.c5
  have t6 := HX2n.out.c6
  have t7 := HX2n.out.c7
  have t8 := HX2n.out.c8
  have t9 := HX2n.out.c9
  go_upto_region 8 with (fail)
  obtain ⟨ab, hab⟩ : ∃ b, abtB x spk lang = b := ⟨_, rfl⟩
  replace hab := Lib.hid hab
  go_cut [9] from 44 (fun s9 wx => s9 = .bool ab ∧ wx = w2)
  case first =>
    cases d1 : (x.spk == -1)
    · cases d2 : (x.spk == spk)
      · go_wp2_with (fail)
        go_meet
        exact ⟨by rw [← hab.out]; simp [abtB, d1, d2], rfl⟩
      cases d3 : (x.lang == -1)
      · cases d4 : (x.lang == lang)
        · go_wp2_with (fail)
          go_meet
          exact ⟨by rw [← hab.out]; simp [abtB, d1, d2, d3, d4], rfl⟩
        · go_wp2_with (fail)
          go_meet
          exact ⟨by rw [← hab.out]; simp [abtB, d1, d2, d3, d4], rfl⟩
      · go_wp2_with (fail)
        go_meet
        exact ⟨by rw [← hab.out]; simp [abtB, d1, d2, d3], rfl⟩
    cases d3 : (x.lang == -1)
    · cases d4 : (x.lang == lang)
      · go_wp2_with (fail)
        go_meet
        exact ⟨by rw [← hab.out]; simp [abtB, d1, d3, d4], rfl⟩
      · go_wp2_with (fail)
        go_meet
        exact ⟨by rw [← hab.out]; simp [abtB, d1, d3, d4], rfl⟩
    · go_wp2_with (fail)
      go_meet
      exact ⟨by rw [← hab.out]; simp [abtB, d1, d3], rfl⟩
  case rest =>
    obtain ⟨rfl, hwc⟩ := hcut
    obtain rfl := hwc.symm
    go_wp2_with (fail)
    have HW4 := Lib.hid (((Below.refl w2.heap.size w2).up (al1 w2 (.cells #[.int .i64 (x.fst - 1), .int .i64 x.fst, .int .i64 (x.lst - 1), .int .i64 x.lst] 3))).up (al1 (w2.alloc (.cells #[.int .i64 (x.fst - 1), .int .i64 x.fst, .int .i64 (x.lst - 1), .int .i64 x.lst] 3)) (.cells #[.int .i64 (x.frm - 1), .int .i64 x.frm, .int .i64 (x.unt - 1), .int .i64 x.unt] 3)))
    have HBG := Lib.hid ((RowF.new w2 (x.fst - 1) x.fst (x.lst - 1) x.lst).upb (al1 (w2.alloc (.cells #[.int .i64 (x.fst - 1), .int .i64 x.fst, .int .i64 (x.lst - 1), .int .i64 x.lst] 3)) (.cells #[.int .i64 (x.frm - 1), .int .i64 x.frm, .int .i64 (x.unt - 1), .int .i64 x.unt] 3)))
    have HAT0 := RowF.new (w2.alloc (.cells #[.int .i64 (x.fst - 1), .int .i64 x.fst, .int .i64 (x.lst - 1), .int .i64 x.lst] 3)) (x.frm - 1) x.frm (x.unt - 1) x.unt
    simp only [World.size_alloc] at HAT0
    have HAT := Lib.hid HAT0
    clear HAT0 q0 q1 q2 q3 q4 q5 q6 q7 q8 q9 HX2n
    have HX4 := Lib.hid ((HX2.out.upb (al1 w2 (.cells #[.int .i64 (x.fst - 1), .int .i64 x.fst, .int .i64 (x.lst - 1), .int .i64 x.lst] 3))).upb (al1 (w2.alloc (.cells #[.int .i64 (x.fst - 1), .int .i64 x.fst, .int .i64 (x.lst - 1), .int .i64 x.lst] 3)) (.cells #[.int .i64 (x.frm - 1), .int .i64 x.frm, .int .i64 (x.unt - 1), .int .i64 x.unt] 3)))
    have HB4 := Lib.hid ((HB2.out.up (al1 w2 (.cells #[.int .i64 (x.fst - 1), .int .i64 x.fst, .int .i64 (x.lst - 1), .int .i64 x.lst] 3))).up (al1 (w2.alloc (.cells #[.int .i64 (x.fst - 1), .int .i64 x.fst, .int .i64 (x.lst - 1), .int .i64 x.lst] 3)) (.cells #[.int .i64 (x.frm - 1), .int .i64 x.frm, .int .i64 (x.unt - 1), .int .i64 x.unt] 3)))
    generalize (w2.alloc (.cells #[.int .i64 (x.fst - 1), .int .i64 x.fst, .int .i64 (x.lst - 1), .int .i64 x.lst] 3)).alloc (.cells #[.int .i64 (x.frm - 1), .int .i64 x.frm, .int .i64 (x.unt - 1), .int .i64 x.unt] 3) = w4 at *
    try generalize w2.heap.size = nb at *
    clear HB2 HX2 HW4
    go_loopw [12] (fun ii wr => ∃ i : Nat, i ≤ 4 ∧ ii = .int .i64 i ∧ Hid (Below w4.heap.size w4 wr)) (fun ii _ => 4 - (intOf ii).toNat)
    case atStart => exact ⟨0, by omega, rfl, Lib.hid (Below.refl _ _)⟩
    case round =>
      obtain ⟨i, hi, rfl, HWo⟩ := hrel
      by_cases hi4 : i < 4
      · have hi1 : (0 : Int) ≤ (i : Int) := by omega
        have hi2 : (i : Int) < (4 : Int) := by omega
        go_wp2_with (fail)
        go_loopw [13] (fun kk wr => ∃ k : Nat, k ≤ 4 ∧ kk = .int .i64 k ∧ Hid (Below w4.heap.size w4 wr)) (fun kk _ => 4 - (intOf kk).toNat)
        case atStart => exact ⟨0, by omega, rfl, HWo⟩
        case round =>
          obtain ⟨k, hk, rfl, HWi⟩ := hrel
          by_cases hk4 : k < 4
          · have HXr := Lib.hid (HX4.out.upb HWi.out)
            have HGr := Lib.hid (HBG.out.upb HWi.out)
            have HTr := Lib.hid (HAT.out.upb HWi.out)
            have cb := HGr.out.bg i hi4
            have ca := HTr.out.at_ k hk4
            obtain ⟨bv, hbv⟩ : ∃ b, bgF x i = b := ⟨_, rfl⟩
            obtain ⟨av, hav⟩ : ∃ b, atF x k = b := ⟨_, rfl⟩
            rw [hbv] at cb
            rw [hav] at ca
            have q0 := HXr.out.c0
            have q1 := HXr.out.c1
            have q2 := HXr.out.c2
            have q3 := HXr.out.c3
            have q4 := HXr.out.c4
            have q5 := HXr.out.c5
            have q6 := HXr.out.c6
            have q7 := HXr.out.c7
            have q8 := HXr.out.c8
            have q9 := HXr.out.c9
            have hk1 : (0 : Int) ≤ (k : Int) := by omega
            have hk2 : (k : Int) < (4 : Int) := by omega
            obtain ⟨z, hz⟩ : ∃ z, Hh.cov x ⟨spk, bv, lang, av, 0⟩ = z := ⟨_, rfl⟩
            obtain ⟨c, hc⟩ : ∃ z, Hh.covE x ⟨spk, bv, lang, av, 0⟩ = z := ⟨_, rfl⟩
            replace hz := Lib.hid hz
            replace hc := Lib.hid hc
            replace hbv := Lib.hid hbv
            replace hav := Lib.hid hav
            have HWd := Lib.hid (show Below w4.heap.size w4 wr.drew from below_drewN HWi.out 1)
            go_wp2_with (fail)
            go_region_held3 (fun X => X.cell? ⟨w.heap.size, 0, none⟩ = some (.int .i64 x.no) ∧ X.cell? ⟨w.heap.size, 1, none⟩ = some (.int .i64 x.kind) ∧ X.cell? ⟨w.heap.size, 2, none⟩ = some (.int .i64 x.spk) ∧ X.cell? ⟨w.heap.size, 3, none⟩ = some (.int .i64 x.fst) ∧ X.cell? ⟨w.heap.size, 4, none⟩ = some (.int .i64 x.lst) ∧ X.cell? ⟨w.heap.size, 5, none⟩ = some (.int .i64 x.lang) ∧ X.cell? ⟨w.heap.size, 6, none⟩ = some (.int .i64 x.frm) ∧ X.cell? ⟨w.heap.size, 7, none⟩ = some (.int .i64 x.unt) ∧ X.cell? ⟨w.heap.size, 8, none⟩ = some (.int .i64 x.known) ∧ X.cell? ⟨w.heap.size, 9, none⟩ = some (.int .i64 x.ms) ∧ X.cell? ⟨nb, i, none⟩ = some (.int .i64 bv) ∧ X.cell? ⟨nb + 1, k, none⟩ = some (.int .i64 av))
              (first
                | exact ⟨q0, q1, q2, q3, q4, q5, q6, q7, q8, q9, cb, ca⟩
                | exact ⟨q0.out, q1.out, q2.out, q3.out, q4.out, q5.out, q6.out, q7.out, q8.out, q9.out, cb2.out, ca2.out⟩)
              (first
                | (go_at_call 23
                   refine (Covers_is (h := x) (q := ⟨spk, bv, lang, av, 0⟩) hz.out hc.out _).mono ?_
                   rintro e w5 ⟨rfl, b5⟩
                   have HWq := Lib.hid (HWd.out.up b5)
                   have HX5 := Lib.hid ((show BoxH wr.drew w.heap.size x from HXr.out).upb b5)
                   have q0 := Lib.hid HX5.out.c0
                   have q1 := Lib.hid HX5.out.c1
                   have q2 := Lib.hid HX5.out.c2
                   have q3 := Lib.hid HX5.out.c3
                   have q4 := Lib.hid HX5.out.c4
                   have q5 := Lib.hid HX5.out.c5
                   have q6 := Lib.hid HX5.out.c6
                   have q7 := Lib.hid HX5.out.c7
                   have q8 := Lib.hid HX5.out.c8
                   have q9 := Lib.hid HX5.out.c9
                   have cb2 := Lib.hid ((((show RowF wr.drew nb _ _ _ _ from HGr.out).upb b5).bg i hi4).trans (by rw [hbv.out]))
                   have ca2 := Lib.hid ((((show RowF wr.drew (nb + 1) _ _ _ _ from HTr.out).upb b5).at_ k hk4).trans (by rw [hav.out]))
                   clear b5))
            all_goals
              replace cb := cb2.out
              replace ca := ca2.out
              clear q0 q1 q2 q3 q4 q5 q6 q7 q8 q9 cb2 ca2 HX5 HXr HGr HTr HWd
              go_wp2_with (fail)
              cases hbt : Hh.inn bv 0 1099511627775
              · refine (refTime_is hbt _).mono ?_
                rintro e _ ⟨rfl, rfl⟩
                obtain rfl : c = 1 := by rw [← hc.out, ← hbv.out, ← hav.out]; exact ends_arg HR.out i k (.inl (by rw [hbv.out]; exact hbt))
                clear hbt
                go_wp2_with (fail)
                go_roundw
                case rel => exact ⟨k + 1, by omega, by go_num, HWq⟩
                case measure => first | omega | (simp [intOf]; omega) | (simp [intOf]; done)
              refine (refTime_is hbt _).mono ?_
              rintro e _ ⟨rfl, rfl⟩
              replace hbt := Lib.hid hbt
              go_wp2_with (fail)
              cases hat : Hh.inn av 0 1099511627775
              · refine (refTime_is hat _).mono ?_
                rintro e _ ⟨rfl, rfl⟩
                obtain rfl : c = 1 := by rw [← hc.out, ← hbv.out, ← hav.out]; exact ends_arg HR.out i k (.inr (by rw [hav.out]; exact hat))
                clear hat
                go_wp2_with (fail)
                go_roundw
                case rel => exact ⟨k + 1, by omega, by go_num, HWq⟩
                case measure => first | omega | (simp [intOf]; omega) | (simp [intOf]; done)
              refine (refTime_is hat _).mono ?_
              rintro e _ ⟨rfl, rfl⟩
              have HOK := ends_ok HR.out HS.out HL.out i k hi4 hk4 (by rw [hbv.out]; exact hbt.out) (by rw [hav.out]; exact hat)
              rw [hbv.out, hav.out, hc.out, hz.out] at HOK
              obtain ⟨rfl, HN, HY⟩ := HOK
              cases ab
              · have HCV := Lib.hid (HN (fun h => by rw [← abt_iff, hab.out] at h; cases h))
                clear hat HN HY hz hc
                have hzz : z = false := HCV.out
                subst hzz
                skip
                go_wp2_with (fail)
                go_roundw
                case rel => exact ⟨k + 1, by omega, by go_num, HWq⟩
                case measure => first | omega | (simp [intOf]; omega) | (simp [intOf]; done)
              · have HCV := Lib.hid (HY ((abt_iff x spk lang).1 hab.out))
                clear hat HN HY hz hc
                cases z
                · have hzz : midB i k = false := HCV.out.symm
                  have hzz := Lib.hid (show ¬ ((i = 1 ∨ i = 2) ∧ (k = 1 ∨ k = 2)) from fun h => by
                    have : midB i k = true := by simpa [midB] using h
                    rw [this] at hzz; cases hzz)
                  cases di1 : ((i : Int) == 1)
                  · cases di2 : ((i : Int) == 2)
                    · skip
                      go_wp2_with (fail)
                      go_roundw
                      case rel => exact ⟨k + 1, by omega, by go_num, HWq⟩
                      case measure => first | omega | (simp [intOf]; omega) | (simp [intOf]; done)
                    · have dk1 : ((k : Int) == 1) = false := by
                        refine Bool.eq_false_iff.2 fun h => hzz.out ⟨.inr ?_, .inl ?_⟩
                        · simp at di2; omega
                        · simp at h; omega
                      have dk2 : ((k : Int) == 2) = false := by
                        refine Bool.eq_false_iff.2 fun h => hzz.out ⟨.inr ?_, .inr ?_⟩
                        · simp at di2; omega
                        · simp at h; omega
                      skip
                      go_wp2_with (fail)
                      go_roundw
                      case rel => exact ⟨k + 1, by omega, by go_num, HWq⟩
                      case measure => first | omega | (simp [intOf]; omega) | (simp [intOf]; done)
                  · have dk1 : ((k : Int) == 1) = false := by
                      refine Bool.eq_false_iff.2 fun h => hzz.out ⟨.inl ?_, .inl ?_⟩
                      · simp at di1; omega
                      · simp at h; omega
                    have dk2 : ((k : Int) == 2) = false := by
                      refine Bool.eq_false_iff.2 fun h => hzz.out ⟨.inl ?_, .inr ?_⟩
                      · simp at di1; omega
                      · simp at h; omega
                    skip
                    go_wp2_with (fail)
                    go_roundw
                    case rel => exact ⟨k + 1, by omega, by go_num, HWq⟩
                    case measure => first | omega | (simp [intOf]; omega) | (simp [intOf]; done)
                · have hzz : midB i k = true := HCV.out.symm
                  have hzz := Lib.hid (show ((i = 1 ∨ i = 2) ∧ (k = 1 ∨ k = 2)) from by simpa [midB] using hzz)
                  have hi12 : ¬ ((i : Int) == 1) = true → ((i : Int) == 2) = true := fun h => by
                    have := hzz.out.1; simp at h ⊢; omega
                  have hk12 : ¬ ((k : Int) == 1) = true → ((k : Int) == 2) = true := fun h => by
                    have := hzz.out.2; simp at h ⊢; omega
                  replace hi12 := Lib.hid hi12
                  replace hk12 := Lib.hid hk12
                  cases di1 : ((i : Int) == 1)
                  · have di2 : ((i : Int) == 2) = true := hi12.out (by rw [di1]; decide)
                    cases dk1 : ((k : Int) == 1)
                    · have dk2 : ((k : Int) == 2) = true := hk12.out (by rw [dk1]; decide)
                      skip
                      go_wp2_with (fail)
                      go_roundw
                      case rel => exact ⟨k + 1, by omega, by go_num, HWq⟩
                      case measure => first | omega | (simp [intOf]; omega) | (simp [intOf]; done)
                    · skip
                      go_wp2_with (fail)
                      go_roundw
                      case rel => exact ⟨k + 1, by omega, by go_num, HWq⟩
                      case measure => first | omega | (simp [intOf]; omega) | (simp [intOf]; done)
                  · cases dk1 : ((k : Int) == 1)
                    · have dk2 : ((k : Int) == 2) = true := hk12.out (by rw [dk1]; decide)
                      skip
                      go_wp2_with (fail)
                      go_roundw
                      case rel => exact ⟨k + 1, by omega, by go_num, HWq⟩
                      case measure => first | omega | (simp [intOf]; omega) | (simp [intOf]; done)
                    · skip
                      go_wp2_with (fail)
                      go_roundw
                      case rel => exact ⟨k + 1, by omega, by go_num, HWq⟩
                      case measure => first | omega | (simp [intOf]; omega) | (simp [intOf]; done)
          · go_wp2_with (fail)
            go_roundw
            case rel => exact ⟨i + 1, by omega, by go_num, HWi⟩
            case measure => first | omega | (simp [intOf]; omega) | (simp [intOf]; done)
      · have HXr := Lib.hid (HX4.out.upb HWo.out)
        have q0 := HXr.out.c0
        have q1 := HXr.out.c1
        have q2 := HXr.out.c2
        have q3 := HXr.out.c3
        have q4 := HXr.out.c4
        have q5 := HXr.out.c5
        have q6 := HXr.out.c6
        have q7 := HXr.out.c7
        have q8 := HXr.out.c8
        have q9 := HXr.out.c9
        go_wp2_with (fail)
        refine (Check_is HC0.out (hs_lit wr [x] 1 _ rfl rfl) (by simp)).mono ?_
        rintro e w6 ⟨rfl, bb⟩
        have HB6 := Lib.hid (((HB4.out.up HWo.out).up (al1 wr (.cells #[.int .i64 x.no, .int .i64 x.kind, .int .i64 x.spk, .int .i64 x.fst, .int .i64 x.lst, .int .i64 x.lang, .int .i64 x.frm, .int .i64 x.unt, .int .i64 x.known, .int .i64 x.ms] 24))).up bb)
        clear bb q0 q1 q2 q3 q4 q5 q6 q7 q8 q9 HXr
        go_wp2_with (fail)
        go_ret
        exact ⟨rfl, HB6.out⟩
end Go.Proofs.Ytninnpcggeofmaa

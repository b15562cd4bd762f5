/- The statement HouseBox, walked. -/
import Derived.Test.YtninnpcggeofmaaW28
import Derived.Test.YtninnpcggeofmaaPlain7
namespace Go.Proofs.Ytninnpcggeofmaa
open Go.RowKit
set_option linter.unusedVariables false
set_option linter.unusedSimpArgs false
attribute [local go_sem] frozen_new

def fourV (a0 a1 a2 a3 : Int) : Value := .agg #[.int .i64 a0, .int .i64 a1, .int .i64 a2, .int .i64 a3]
def BoxF (W : World) (B : Nat) (a0 a1 a2 a3 : Int) : Prop := W.heap[B]? = some (.cells #[.int .i64 a0, .int .i64 a1, .int .i64 a2, .int .i64 a3] 37 (0, 0))
theorem BoxF.lt {W : World} {B : Nat} {a0 a1 a2 a3 : Int} (hb : BoxF W B a0 a1 a2 a3) : B < W.heap.size := (Array.getElem?_eq_some_iff.1 hb).1
theorem BoxF.upb {W W' : World} {B : Nat} {a0 a1 a2 a3 : Int} (hb : BoxF W B a0 a1 a2 a3) (hk : Below W.heap.size W W') : BoxF W' B a0 a1 a2 a3 := (hk.block B hb.lt).trans hb
theorem BoxF.new (W : World) (a0 a1 a2 a3 : Int) : BoxF (W.alloc (.cells #[.int .i64 a0, .int .i64 a1, .int .i64 a2, .int .i64 a3] 37)) W.heap.size a0 a1 a2 a3 := World.alloc_heap_new W _
theorem BoxF.c0 {W : World} {B : Nat} {a0 a1 a2 a3 : Int} (hb : BoxF W B a0 a1 a2 a3) : W.cell? ⟨B, 0, none⟩ = some (.int .i64 a0) := by simp [World.cell?, show W.heap[B]? = _ from hb]
theorem BoxF.c1 {W : World} {B : Nat} {a0 a1 a2 a3 : Int} (hb : BoxF W B a0 a1 a2 a3) : W.cell? ⟨B, 1, none⟩ = some (.int .i64 a1) := by simp [World.cell?, show W.heap[B]? = _ from hb]
theorem BoxF.c2 {W : World} {B : Nat} {a0 a1 a2 a3 : Int} (hb : BoxF W B a0 a1 a2 a3) : W.cell? ⟨B, 2, none⟩ = some (.int .i64 a2) := by simp [World.cell?, show W.heap[B]? = _ from hb]
theorem BoxF.c3 {W : World} {B : Nat} {a0 a1 a2 a3 : Int} (hb : BoxF W B a0 a1 a2 a3) : W.cell? ⟨B, 3, none⟩ = some (.int .i64 a3) := by simp [World.cell?, show W.heap[B]? = _ from hb]

set_option maxHeartbeats 8000000 in
set_option maxRecDepth 100000 in
theorem HouseBox_any (x : Hh) (a0 a1 a2 a3 b0 b1 b2 b3 : Int) (w : World) : Calls Try.prog 5 #[vH x, fourV a0 a1 a2 a3, fourV b0 b1 b2 b3] w fun e w' => e = .returned (.bool true) ∧ Below w.heap.size w w' := by
  have HX0 := Lib.hid (((BoxH.new w x).upb (al1 (w.alloc (.cells #[.int .i64 x.no, .int .i64 x.kind, .int .i64 x.spk, .int .i64 x.fst, .int .i64 x.lst, .int .i64 x.lang, .int .i64 x.frm, .int .i64 x.unt, .int .i64 x.known, .int .i64 x.ms] 24)) (.cells #[.int .i64 a0, .int .i64 a1, .int .i64 a2, .int .i64 a3] 37))).upb (al1 ((w.alloc (.cells #[.int .i64 x.no, .int .i64 x.kind, .int .i64 x.spk, .int .i64 x.fst, .int .i64 x.lst, .int .i64 x.lang, .int .i64 x.frm, .int .i64 x.unt, .int .i64 x.known, .int .i64 x.ms] 24)).alloc (.cells #[.int .i64 a0, .int .i64 a1, .int .i64 a2, .int .i64 a3] 37)) (.cells #[.int .i64 b0, .int .i64 b1, .int .i64 b2, .int .i64 b3] 37)))
  have HA0' := (BoxF.new (w.alloc (.cells #[.int .i64 x.no, .int .i64 x.kind, .int .i64 x.spk, .int .i64 x.fst, .int .i64 x.lst, .int .i64 x.lang, .int .i64 x.frm, .int .i64 x.unt, .int .i64 x.known, .int .i64 x.ms] 24)) a0 a1 a2 a3).upb (al1 ((w.alloc (.cells #[.int .i64 x.no, .int .i64 x.kind, .int .i64 x.spk, .int .i64 x.fst, .int .i64 x.lst, .int .i64 x.lang, .int .i64 x.frm, .int .i64 x.unt, .int .i64 x.known, .int .i64 x.ms] 24)).alloc (.cells #[.int .i64 a0, .int .i64 a1, .int .i64 a2, .int .i64 a3] 37)) (.cells #[.int .i64 b0, .int .i64 b1, .int .i64 b2, .int .i64 b3] 37))
  have HC0' := BoxF.new ((w.alloc (.cells #[.int .i64 x.no, .int .i64 x.kind, .int .i64 x.spk, .int .i64 x.fst, .int .i64 x.lst, .int .i64 x.lang, .int .i64 x.frm, .int .i64 x.unt, .int .i64 x.known, .int .i64 x.ms] 24)).alloc (.cells #[.int .i64 a0, .int .i64 a1, .int .i64 a2, .int .i64 a3] 37)) b0 b1 b2 b3
  simp only [World.size_alloc] at HA0' HC0'
  have HA0 := Lib.hid HA0'
  have HC0 := Lib.hid HC0'
  have HB0 := Lib.hid (((al1 w (.cells #[.int .i64 x.no, .int .i64 x.kind, .int .i64 x.spk, .int .i64 x.fst, .int .i64 x.lst, .int .i64 x.lang, .int .i64 x.frm, .int .i64 x.unt, .int .i64 x.known, .int .i64 x.ms] 24)).up (al1 (w.alloc (.cells #[.int .i64 x.no, .int .i64 x.kind, .int .i64 x.spk, .int .i64 x.fst, .int .i64 x.lst, .int .i64 x.lang, .int .i64 x.frm, .int .i64 x.unt, .int .i64 x.known, .int .i64 x.ms] 24)) (.cells #[.int .i64 a0, .int .i64 a1, .int .i64 a2, .int .i64 a3] 37))).up (al1 ((w.alloc (.cells #[.int .i64 x.no, .int .i64 x.kind, .int .i64 x.spk, .int .i64 x.fst, .int .i64 x.lst, .int .i64 x.lang, .int .i64 x.frm, .int .i64 x.unt, .int .i64 x.known, .int .i64 x.ms] 24)).alloc (.cells #[.int .i64 a0, .int .i64 a1, .int .i64 a2, .int .i64 a3] 37)) (.cells #[.int .i64 b0, .int .i64 b1, .int .i64 b2, .int .i64 b3] 37)))
  have hxx : vH x = vH x := rfl
  unfold vH fourV
  clear hxx HA0' HC0'
  go_enter Try.func5, Try.ntmps5
  go_wp2_with (fail)
  refine (sane35_any _).mono ?_
  rintro e w1 ⟨rfl, b1⟩
  have HB1 := Lib.hid (HB0.out.up b1)
  have HX1 := Lib.hid (HX0.out.upb b1)
  have HA1 := Lib.hid (HA0.out.upb b1)
  have HC1 := Lib.hid (HC0.out.upb b1)
  clear b1 HB0 HX0 HA0 HC0
  have q0 := HX1.out.c0
  have q1 := HX1.out.c1
  have q2 := HX1.out.c2
  have q3 := HX1.out.c3
  have q4 := HX1.out.c4
  have q5 := HX1.out.c5
  have q6 := HX1.out.c6
  have q7 := HX1.out.c7
  have q8 := HX1.out.c8
  have q9 := HX1.out.c9
  have p0 := HA1.out.c0
  have p1 := HA1.out.c1
  have p2 := HA1.out.c2
  have p3 := HA1.out.c3
  have r0 := HC1.out.c0
  have r1 := HC1.out.c1
  have r2 := HC1.out.c2
  have r3 := HC1.out.c3
  go_wp2_with (fail)
  obtain ⟨xb, hxb⟩ : ∃ b, Hh.cov x ⟨a0, a1, a2, a3, 0⟩ = b := ⟨_, rfl⟩
  obtain ⟨ae, hae⟩ : ∃ b, Hh.covE x ⟨a0, a1, a2, a3, 0⟩ = b := ⟨_, rfl⟩
  obtain ⟨yb, hyb⟩ : ∃ b, Hh.cov x ⟨b0, b1, b2, b3, 0⟩ = b := ⟨_, rfl⟩
  obtain ⟨be, hbe⟩ : ∃ b, Hh.covE x ⟨b0, b1, b2, b3, 0⟩ = b := ⟨_, rfl⟩
  replace hxb := Lib.hid hxb
  replace hae := Lib.hid hae
  replace hyb := Lib.hid hyb
  replace hbe := Lib.hid hbe
  refine (Covers_is (h := x) (q := ⟨a0, a1, a2, a3, 0⟩) hxb.out hae.out _).mono ?_
  rintro e w2 ⟨rfl, bb⟩
  have HB2 := Lib.hid (HB1.out.up bb)
  have HX2 := Lib.hid (HX1.out.upb bb)
  have HA2 := Lib.hid (HA1.out.upb bb)
  have HC2 := Lib.hid (HC1.out.upb bb)
  clear bb HB1 HX1 HA1 HC1 q0 q1 q2 q3 q4 q5 q6 q7 q8 q9 p0 p1 p2 p3 r0 r1 r2 r3
  have q0 := HX2.out.c0
  have q1 := HX2.out.c1
  have q2 := HX2.out.c2
  have q3 := HX2.out.c3
  have q4 := HX2.out.c4
  have q5 := HX2.out.c5
  have q6 := HX2.out.c6
  have q7 := HX2.out.c7
  have q8 := HX2.out.c8
  have q9 := HX2.out.c9
  have p0 := HA2.out.c0
  have p1 := HA2.out.c1
  have p2 := HA2.out.c2
  have p3 := HA2.out.c3
  have r0 := HC2.out.c0
  have r1 := HC2.out.c1
  have r2 := HC2.out.c2
  have r3 := HC2.out.c3
  go_wp2_with (fail)
  refine (Covers_is (h := x) (q := ⟨b0, b1, b2, b3, 0⟩) hyb.out hbe.out _).mono ?_
  rintro e w3 ⟨rfl, bb⟩
  have HB3 := Lib.hid (HB2.out.up bb)
  have HX3 := Lib.hid (HX2.out.upb bb)
  have HA3 := Lib.hid (HA2.out.upb bb)
  have HC3 := Lib.hid (HC2.out.upb bb)
  clear bb HB2 HX2 HA2 HC2 q0 q1 q2 q3 q4 q5 q6 q7 q8 q9 p0 p1 p2 p3 r0 r1 r2 r3
  cases dae : (ae == 0)
  · have hx0 : xb = false := by rw [← hxb.out]; exact covE_n (by rw [hae.out]; simpa using dae)
    subst hx0
    cases dbe : (be == 0)
    · have hy0 : yb = false := by rw [← hyb.out]; exact covE_n (by rw [hbe.out]; simpa using dbe)
      subst hy0
      go_wp2_with (fail)
      go_ret
      exact ⟨rfl, HB3.out⟩
    · go_wp2_with (fail)
      go_ret
      exact ⟨rfl, HB3.out⟩
  obtain rfl : ae = 0 := by simpa using dae
  cases dbe : (be == 0)
  · have hy0 : yb = false := by rw [← hyb.out]; exact covE_n (by rw [hbe.out]; simpa using dbe)
    subst hy0
    go_wp2_with (fail)
    go_ret
    exact ⟨rfl, HB3.out⟩
  obtain rfl : be = 0 := by simpa using dbe
  clear dae dbe
  cases xb
  · go_wp2_with (fail)
    go_ret
    exact ⟨rfl, HB3.out⟩
  obtain ⟨hE, hY⟩ := box_plain x a0 a1 a2 a3 b0 b1 b2 b3 hae.out hbe.out hxb.out
  have HE := Lib.hid hE
  have HY := Lib.hid (hyb.out.symm.trans hY)
  clear hE hY hxb hyb hae hbe
  go_wp2_with (fail)
  go_loopw [11, 12] (fun f i wr => ∃ k : Nat, k ≤ 4 ∧ i = .int .i64 k ∧ f = .bool (bxP x (bxQ a0 a1 a2 a3 b0 b1 b2 b3) k) ∧ Hid (Below w3.heap.size w3 wr)) (fun _ i _ => 4 - (intOf i).toNat)
  case atStart => exact ⟨0, by omega, rfl, rfl, Lib.hid (Below.refl _ _)⟩
  case round =>
    obtain ⟨k, hk, rfl, rfl, HW⟩ := hrel
    have HXr := Lib.hid (HX3.out.upb HW.out)
    have HAr := Lib.hid (HA3.out.upb HW.out)
    have HCr := Lib.hid (HC3.out.upb HW.out)
    have q0 := HXr.out.c0
    have q1 := HXr.out.c1
    have q2 := HXr.out.c2
    have q3 := HXr.out.c3
    have q4 := HXr.out.c4
    have q5 := HXr.out.c5
    have q6 := HXr.out.c6
    have q7 := HXr.out.c7
    have q8 := HXr.out.c8
    have q9 := HXr.out.c9
    have p0 := HAr.out.c0
    have p1 := HAr.out.c1
    have p2 := HAr.out.c2
    have p3 := HAr.out.c3
    have r0 := HCr.out.c0
    have r1 := HCr.out.c1
    have r2 := HCr.out.c2
    have r3 := HCr.out.c3
    obtain rfl | rfl | rfl | rfl | rfl : k = 0 ∨ k = 1 ∨ k = 2 ∨ k = 3 ∨ k = 4 := by omega
    · have hz0 := HE.out 0
      have HXn := Lib.hid (HXr.out.upb (al1 wr (.cells #[.int .i64 b0, .int .i64 a1, .int .i64 a2, .int .i64 a3] 37)))
      have t0 := HXn.out.c0
      have t1 := HXn.out.c1
      have t2 := HXn.out.c2
      have t3 := HXn.out.c3
      have t4 := HXn.out.c4
      have t5 := HXn.out.c5
      have t6 := HXn.out.c6
      have t7 := HXn.out.c7
      have t8 := HXn.out.c8
      have t9 := HXn.out.c9

      have ra := ((HCr.out.upb (al1 wr (.cells #[.int .i64 a0, .int .i64 a1, .int .i64 a2, .int .i64 a3] 37))).c0)
      obtain ⟨z, hz⟩ : ∃ z, Hh.cov x ⟨b0, a1, a2, a3, 0⟩ = z := ⟨_, rfl⟩
      have HP := Lib.hid (show bxP x (bxQ a0 a1 a2 a3 b0 b1 b2 b3) 1 = (bxP x (bxQ a0 a1 a2 a3 b0 b1 b2 b3) 0 && z) by rw [bxP_succ]; exact congrArg _ hz)
      replace hz := Lib.hid hz
      replace hz0 := Lib.hid hz0
      generalize bxP x (bxQ a0 a1 a2 a3 b0 b1 b2 b3) 0 = p at *
      go_wp2_with (fail)
      refine (Covers_is (h := x) (q := ⟨b0, a1, a2, a3, 0⟩) hz.out hz0.out _).mono ?_
      rintro e w5 ⟨rfl, b5⟩
      have HW5 := Lib.hid ((HW.out.up (al1 wr (.cells #[.int .i64 b0, .int .i64 a1, .int .i64 a2, .int .i64 a3] 37))).up b5)
      clear b5
      cases p
      all_goals
        go_wp2_with (fail)
        go_roundw
        case rel => exact ⟨1, by omega, by go_num, by rw [HP.out]; cases z <;> rfl, HW5⟩
        case measure => first | omega | (simp [intOf]; omega) | (simp [intOf]; done)
    · have hz0 := HE.out 1
      have HXn := Lib.hid (HXr.out.upb (al1 wr (.cells #[.int .i64 a0, .int .i64 b1, .int .i64 a2, .int .i64 a3] 37)))
      have t0 := HXn.out.c0
      have t1 := HXn.out.c1
      have t2 := HXn.out.c2
      have t3 := HXn.out.c3
      have t4 := HXn.out.c4
      have t5 := HXn.out.c5
      have t6 := HXn.out.c6
      have t7 := HXn.out.c7
      have t8 := HXn.out.c8
      have t9 := HXn.out.c9

      have ra := ((HCr.out.upb (al1 wr (.cells #[.int .i64 a0, .int .i64 a1, .int .i64 a2, .int .i64 a3] 37))).c1)
      obtain ⟨z, hz⟩ : ∃ z, Hh.cov x ⟨a0, b1, a2, a3, 0⟩ = z := ⟨_, rfl⟩
      have HP := Lib.hid (show bxP x (bxQ a0 a1 a2 a3 b0 b1 b2 b3) 2 = (bxP x (bxQ a0 a1 a2 a3 b0 b1 b2 b3) 1 && z) by rw [bxP_succ]; exact congrArg _ hz)
      replace hz := Lib.hid hz
      replace hz0 := Lib.hid hz0
      generalize bxP x (bxQ a0 a1 a2 a3 b0 b1 b2 b3) 1 = p at *
      go_wp2_with (fail)
      refine (Covers_is (h := x) (q := ⟨a0, b1, a2, a3, 0⟩) hz.out hz0.out _).mono ?_
      rintro e w5 ⟨rfl, b5⟩
      have HW5 := Lib.hid ((HW.out.up (al1 wr (.cells #[.int .i64 a0, .int .i64 b1, .int .i64 a2, .int .i64 a3] 37))).up b5)
      clear b5
      cases p
      all_goals
        go_wp2_with (fail)
        go_roundw
        case rel => exact ⟨2, by omega, by go_num, by rw [HP.out]; cases z <;> rfl, HW5⟩
        case measure => first | omega | (simp [intOf]; omega) | (simp [intOf]; done)
    · have hz0 := HE.out 2
      have HXn := Lib.hid (HXr.out.upb (al1 wr (.cells #[.int .i64 a0, .int .i64 a1, .int .i64 b2, .int .i64 a3] 37)))
      have t0 := HXn.out.c0
      have t1 := HXn.out.c1
      have t2 := HXn.out.c2
      have t3 := HXn.out.c3
      have t4 := HXn.out.c4
      have t5 := HXn.out.c5
      have t6 := HXn.out.c6
      have t7 := HXn.out.c7
      have t8 := HXn.out.c8
      have t9 := HXn.out.c9

      have ra := ((HCr.out.upb (al1 wr (.cells #[.int .i64 a0, .int .i64 a1, .int .i64 a2, .int .i64 a3] 37))).c2)
      obtain ⟨z, hz⟩ : ∃ z, Hh.cov x ⟨a0, a1, b2, a3, 0⟩ = z := ⟨_, rfl⟩
      have HP := Lib.hid (show bxP x (bxQ a0 a1 a2 a3 b0 b1 b2 b3) 3 = (bxP x (bxQ a0 a1 a2 a3 b0 b1 b2 b3) 2 && z) by rw [bxP_succ]; exact congrArg _ hz)
      replace hz := Lib.hid hz
      replace hz0 := Lib.hid hz0
      generalize bxP x (bxQ a0 a1 a2 a3 b0 b1 b2 b3) 2 = p at *
      go_wp2_with (fail)
      refine (Covers_is (h := x) (q := ⟨a0, a1, b2, a3, 0⟩) hz.out hz0.out _).mono ?_
      rintro e w5 ⟨rfl, b5⟩
      have HW5 := Lib.hid ((HW.out.up (al1 wr (.cells #[.int .i64 a0, .int .i64 a1, .int .i64 b2, .int .i64 a3] 37))).up b5)
      clear b5
      cases p
      all_goals
        go_wp2_with (fail)
        go_roundw
        case rel => exact ⟨3, by omega, by go_num, by rw [HP.out]; cases z <;> rfl, HW5⟩
        case measure => first | omega | (simp [intOf]; omega) | (simp [intOf]; done)
    · have hz0 := HE.out 3
      have HXn := Lib.hid (HXr.out.upb (al1 wr (.cells #[.int .i64 a0, .int .i64 a1, .int .i64 a2, .int .i64 b3] 37)))
      have t0 := HXn.out.c0
      have t1 := HXn.out.c1
      have t2 := HXn.out.c2
      have t3 := HXn.out.c3
      have t4 := HXn.out.c4
      have t5 := HXn.out.c5
      have t6 := HXn.out.c6
      have t7 := HXn.out.c7
      have t8 := HXn.out.c8
      have t9 := HXn.out.c9

      have ra := ((HCr.out.upb (al1 wr (.cells #[.int .i64 a0, .int .i64 a1, .int .i64 a2, .int .i64 a3] 37))).c3)
      obtain ⟨z, hz⟩ : ∃ z, Hh.cov x ⟨a0, a1, a2, b3, 0⟩ = z := ⟨_, rfl⟩
      have HP := Lib.hid (show bxP x (bxQ a0 a1 a2 a3 b0 b1 b2 b3) 4 = (bxP x (bxQ a0 a1 a2 a3 b0 b1 b2 b3) 3 && z) by rw [bxP_succ]; exact congrArg _ hz)
      replace hz := Lib.hid hz
      replace hz0 := Lib.hid hz0
      generalize bxP x (bxQ a0 a1 a2 a3 b0 b1 b2 b3) 3 = p at *
      go_wp2_with (fail)
      refine (Covers_is (h := x) (q := ⟨a0, a1, a2, b3, 0⟩) hz.out hz0.out _).mono ?_
      rintro e w5 ⟨rfl, b5⟩
      have HW5 := Lib.hid ((HW.out.up (al1 wr (.cells #[.int .i64 a0, .int .i64 a1, .int .i64 a2, .int .i64 b3] 37))).up b5)
      clear b5
      cases p
      all_goals
        go_wp2_with (fail)
        go_roundw
        case rel => exact ⟨4, by omega, by go_num, by rw [HP.out]; cases z <;> rfl, HW5⟩
        case measure => first | omega | (simp [intOf]; omega) | (simp [intOf]; done)
    · rw [← HY.out]
      cases yb
      all_goals
        go_wp2_with (fail)
        go_ret
        exact ⟨rfl, HB3.out.up HW.out⟩
end Go.Proofs.Ytninnpcggeofmaa

/- Walk of JournalSteps. -/
import Derived.Test.YtkcnanclpkongaaL8c
import Derived.Deep.Cut
namespace Go.Proofs.Ytkcnanclpkongaa
open Go.RowKit
set_option linter.unusedVariables false
set_option linter.unusedSimpArgs false
set_option maxRecDepth 20000

set_option maxHeartbeats 16000000 in
set_option maxRecDepth 100000 in
theorem JournalSteps_any {u v : Value} {ra rb : List By} {w : World} (hu : IsBs w u ra) (hv : IsBs w v rb) (hl : ra.length + rb.length ≤ 1000000000) (hla : ∀ k (h : k < ra.length), ra[k].length ≤ 140737488351232) (hlb : ∀ k (h : k < rb.length), rb[k].length ≤ 140737488351232) :
    Calls Try.prog 8 #[u, v] w fun e w' => e = .returned (.bool true) ∧ Below w.heap.size w w' := by
  obtain ⟨Aa, ca, _, rfl, _⟩ := id hu
  obtain ⟨Ab, cb, _, rfl, _⟩ := id hv
  obtain ⟨ja, jb, s1, s2, s3, p1, p2, p3, p4, p5, ⟨p6, p7, p8, p9, p10, p11⟩, ⟨p12, p13, p14, p15⟩, ⟨p16, p17, p18, p19, p20, p21⟩, ⟨p22, p23, p24⟩⟩ := Jn.steps_facts ra rb
  obtain ⟨ss0, hss0⟩ : ∃ s, List.replicate 40 Dv.zs = s := ⟨_, rfl⟩
  have hN := Jn.nw_eq (n := 40) (by decide) (by decide)
  have hO := Jn.open_ss (ss := List.replicate 40 Dv.zs) (left := -1) (Jn.ok_new (by decide) (by decide))
  rw [Jn.recs_new0] at hO
  rw [hss0] at hN hO p6 p7 p8 p12 p13 p14
  have HSL := Lib.hid (show ss0.length = 40 from by rw [← hss0]; rfl)
  have E1 := Lib.hid (show Dv.nwE 40 = 0 from hN.2)
  have E2 := Lib.hid (show Dv.nw 40 = ⟨ss0, [], -1, false⟩ from hN.1)
  have E3 := Lib.hid (show Jn.openE ⟨ss0, [], -1, false⟩ = 0 from hO.1)
  have E4 := Lib.hid (show Jn.openJ ⟨ss0, [], -1, false⟩ = ⟨[], 40, 0⟩ from by have h := hO.2; rw [HSL.out] at h; exact h)
  clear hN hO hss0
  have P1 := Lib.hid p1
  have P2 := Lib.hid p2
  have P3 := Lib.hid p3
  have P4 := Lib.hid p4
  have P5 := Lib.hid p5
  have P6 := Lib.hid p6
  have P7 := Lib.hid p7
  have P8 := Lib.hid p8
  have P9 := Lib.hid p9
  have P10 := Lib.hid p10
  have P11 := Lib.hid p11
  have P12 := Lib.hid p12
  have P13 := Lib.hid p13
  have P14 := Lib.hid p14
  have P15 := Lib.hid p15
  have P16 := Lib.hid p16
  have P17 := Lib.hid p17
  have P18 := Lib.hid p18
  have P19 := Lib.hid p19
  have P20 := Lib.hid p20
  have P21 := Lib.hid p21
  have P22 := Lib.hid p22
  have P23 := Lib.hid p23
  have P24 := Lib.hid p24
  clear p1 p2 p3 p4 p5 p6 p7 p8 p9 p10 p11 p12 p13 p14 p15 p16 p17 p18 p19 p20 p21 p22 p23 p24
  have HL := Lib.hid hl
  have HLA := Lib.hid hla
  have HLB := Lib.hid hlb
  have HW := Lib.hid (Bl.mk (Below.refl w.heap.size w))
  have U := Lib.hid hu
  have V := Lib.hid hv
  clear hu hv hl hla hlb
  go_enter Try.func8, Try.ntmps8
  go_wp2_with (fail)
  refine (sane_any _).mono ?_
  rintro e w1 ⟨rfl, hb⟩
  replace HW := Lib.hid (HW.out.upb hb)
  replace U := Lib.hid (U.out.upb hb)
  replace V := Lib.hid (V.out.upb hb)
  clear hb
  go_wp2_with (fail)
  refine (New_is (n := 40) E1.out E2.out).mono ?_
  rintro e w2 ⟨A9, c9, B9, k9, rfl, hd, hb⟩
  replace HW := Lib.hid (HW.out.upb hb)
  replace U := Lib.hid (U.out.upb hb)
  replace V := Lib.hid (V.out.upb hb)
  clear hb
  have F5 := Lib.hid hd
  clear hd
  simp only [List.length_nil] at F5 ⊢
  go_upto_region 4 with (fail)
  replace HW := Lib.hid (HW.out.upb (al1 (w2) (.cells #[.slice A9 ss0.length c9, .slice B9 0 k9, .int .i64 (-1), .bool false] 25)))
  replace U := Lib.hid (U.out.upb (al1 (w2) (.cells #[.slice A9 ss0.length c9, .slice B9 0 k9, .int .i64 (-1), .bool false] 25)))
  replace V := Lib.hid (V.out.upb (al1 (w2) (.cells #[.slice A9 ss0.length c9, .slice B9 0 k9, .int .i64 (-1), .bool false] 25)))
  replace F5 := Lib.hid (F5.out.upb (al1 (w2) (.cells #[.slice A9 ss0.length c9, .slice B9 0 k9, .int .i64 (-1), .bool false] 25)))
  have Z5 := Lib.hid (Cells.new (w2) 25 [.slice A9 ss0.length c9, .slice B9 0 k9, .int .i64 (-1), .bool false])
  obtain ⟨b5, hb5⟩ : ∃ b, w2.heap.size = b := ⟨_, rfl⟩
  rw [hb5] at Z5
  simp only [hb5]
  clear hb5
  generalize (w2).alloc (.cells #[.slice A9 ss0.length c9, .slice B9 0 k9, .int .i64 (-1), .bool false] 25) = w3 at *
  refine steps_reg4 (u0 := .slice Aa ra.length ca) (u1 := .slice Ab rb.length cb) rfl rfl rfl rfl rfl Z5.out F5.out U.out V.out HL.out (by rw [HSL.out]; decide) (fun X4 v36 v38 v40 fb hb => ?_)
  replace HW := Lib.hid (HW.out.upb hb)
  replace U := Lib.hid (U.out.upb hb)
  replace V := Lib.hid (V.out.upb hb)
  replace F5 := Lib.hid (F5.out.upb hb)
  replace Z5 := Lib.hid (Z5.out.upb hb)
  clear hb
  cases fb
  case false =>
    go_simp
    go_wp2_with (fail)
    go_ret
    exact ⟨rfl, HW.out.b⟩
  case true =>
  go_simp
  have Z5l := Z5.out.lt
  have Z5c0 := Z5.out.cell (k := 0) rfl
  have Z5c1 := Z5.out.cell (k := 1) rfl
  have Z5c2 := Z5.out.cell (k := 2) rfl
  have Z5c3 := Z5.out.cell (k := 3) rfl
  go_wp2_with (fail)
  refine (Open_is (n := 0) (m := 40) (s := 0) F5.out E3.out E4.out rfl rfl rfl).mono ?_
  rintro e w6 ⟨A11, c11, rfl, hj, hb, -⟩
  replace HW := Lib.hid (HW.out.upb hb)
  replace U := Lib.hid (U.out.upb hb)
  replace V := Lib.hid (V.out.upb hb)
  replace F5 := Lib.hid (F5.out.upb hb)
  replace Z5 := Lib.hid (Z5.out.upb hb)
  clear hb
  clear Z5l Z5c0 Z5c1 Z5c2 Z5c3
  have L8 := Lib.hid hj
  clear hj
  go_upto_region 10 with (fail)
  replace HW := Lib.hid (HW.out.upb (al1 (w6) (.cells #[.slice A11 0 c11, .int .i64 40, .int .i64 0] 29)))
  replace U := Lib.hid (U.out.upb (al1 (w6) (.cells #[.slice A11 0 c11, .int .i64 40, .int .i64 0] 29)))
  replace V := Lib.hid (V.out.upb (al1 (w6) (.cells #[.slice A11 0 c11, .int .i64 40, .int .i64 0] 29)))
  replace F5 := Lib.hid (F5.out.upb (al1 (w6) (.cells #[.slice A11 0 c11, .int .i64 40, .int .i64 0] 29)))
  replace Z5 := Lib.hid (Z5.out.upb (al1 (w6) (.cells #[.slice A11 0 c11, .int .i64 40, .int .i64 0] 29)))
  replace L8 := Lib.hid (L8.out.upb (al1 (w6) (.cells #[.slice A11 0 c11, .int .i64 40, .int .i64 0] 29)))
  have Z8 := Lib.hid (Cells.new (w6) 29 [.slice A11 0 c11, .int .i64 40, .int .i64 0])
  obtain ⟨b8, hb8⟩ : ∃ b, w6.heap.size = b := ⟨_, rfl⟩
  rw [hb8] at Z8
  simp only [hb8]
  clear hb8
  generalize (w6).alloc (.cells #[.slice A11 0 c11, .int .i64 40, .int .i64 0] 29) = w7 at *
  have HA := Lib.hid (show ∀ x, (0 : Int) ≤ (([] : List By).length : Int) + x - x from fun x => by simp)
  refine steps_reg10 (u0 := .slice Aa ra.length ca) (u1 := .slice Ab rb.length cb) (js := []) (j1 := ja) (jb := jb) (rs0 := ra) (rs1 := rb) (ss := ss0) (s1 := s1) (s := 0) rfl rfl rfl rfl rfl U.out (by have := HL.out; omega) HLA.out rfl V.out (by have := HL.out; omega) HLB.out Z8.out Z5.out L8.out F5.out ⟨Int.le_refl _, Int.natCast_nonneg _⟩ (Nat.zero_le _) P3.out P4.out (Int.natCast_nonneg _) P1.out P2.out P6.out P7.out P8.out (fun X10 b10 b11 w1 w2 A21 A22 A23 c21 c22 c23 hb h1 h2 z1 z2 hj hd => ?_)
  clear h1 h2 HA
  replace HW := Lib.hid (HW.out.upb hb)
  replace U := Lib.hid (U.out.upb hb)
  replace V := Lib.hid (V.out.upb hb)
  replace F5 := Lib.hid (F5.out.upb hb)
  replace Z5 := Lib.hid (Z5.out.upb hb)
  replace L8 := Lib.hid (L8.out.upb hb)
  replace Z8 := Lib.hid (Z8.out.upb hb)
  have Z10 := Lib.hid z1
  have Z11 := Lib.hid z2
  have J10 := Lib.hid hj
  have D11 := Lib.hid hd
  clear hb z1 z2 hj hd
  go_simp
  go_upto_region 11 with (fail)
  refine steps_reg11 (u0 := .slice Aa ra.length ca) (js := []) (jb := ja) (rs0 := ra) (ss := ss0) (s1 := s2) (s := 0) rfl rfl rfl rfl rfl U.out (by have := HL.out; omega) HLA.out Z8.out Z5.out L8.out F5.out ⟨Int.le_refl _, Int.natCast_nonneg _⟩ (Nat.zero_le _) P3.out P1.out P12.out P13.out P14.out (fun X11 b13 b14 w1 A24 A25 A26 c24 c25 c26 hb h1 h2 z1 z2 hj hd => ?_)
  clear h1 h2
  replace HW := Lib.hid (HW.out.upb hb)
  replace U := Lib.hid (U.out.upb hb)
  replace V := Lib.hid (V.out.upb hb)
  replace F5 := Lib.hid (F5.out.upb hb)
  replace Z5 := Lib.hid (Z5.out.upb hb)
  replace L8 := Lib.hid (L8.out.upb hb)
  replace Z8 := Lib.hid (Z8.out.upb hb)
  replace Z10 := Lib.hid (Z10.out.upb hb)
  replace Z11 := Lib.hid (Z11.out.upb hb)
  replace J10 := Lib.hid (J10.out.upb hb)
  replace D11 := Lib.hid (D11.out.upb hb)
  have Z13 := Lib.hid z1
  have Z14 := Lib.hid z2
  have J13 := Lib.hid hj
  have D14 := Lib.hid hd
  clear hb z1 z2 hj hd
  go_simp
  go_upto_region 12 with (fail)
  refine steps_reg12 (u0 := .slice Ab rb.length cb) (js := ja) (jb := jb) (rs0 := rb) (ss := s2) (s1 := s3) (s := ja.length) rfl rfl rfl rfl rfl V.out (by have := HL.out; omega) HLB.out Z13.out Z14.out J13.out D14.out ⟨Int.natCast_nonneg _, Int.le_refl _⟩ P3.out P4.out P2.out P16.out P17.out P18.out (fun X12 b16 b17 w1 A27 A28 A29 c27 c28 c29 hb h1 h2 z1 z2 hj hd => ?_)
  clear h1 h2
  replace HW := Lib.hid (HW.out.upb hb)
  replace U := Lib.hid (U.out.upb hb)
  replace V := Lib.hid (V.out.upb hb)
  replace F5 := Lib.hid (F5.out.upb hb)
  replace Z5 := Lib.hid (Z5.out.upb hb)
  replace L8 := Lib.hid (L8.out.upb hb)
  replace Z8 := Lib.hid (Z8.out.upb hb)
  replace Z10 := Lib.hid (Z10.out.upb hb)
  replace Z11 := Lib.hid (Z11.out.upb hb)
  replace J10 := Lib.hid (J10.out.upb hb)
  replace D11 := Lib.hid (D11.out.upb hb)
  replace Z13 := Lib.hid (Z13.out.upb hb)
  replace Z14 := Lib.hid (Z14.out.upb hb)
  replace J13 := Lib.hid (J13.out.upb hb)
  replace D14 := Lib.hid (D14.out.upb hb)
  have Z16 := Lib.hid z1
  have Z17 := Lib.hid z2
  have J16 := Lib.hid hj
  have D17 := Lib.hid hd
  clear hb z1 z2 hj hd
  clear U V F5 Z5 L8 Z8 Z13 J13 Z14 D14
  have HSM := Lib.hid (Jn.sm_used (rs := jb) (by have := P4.out; omega))
  have HJB := Lib.hid (show jb.length ≤ 1000000 by have h1 := Jn.used_ge jb; have := P4.out; omega)
  go_simp
  have Z16l := Z16.out.lt
  have Z16c0 := Z16.out.cell (k := 0) rfl
  have Z16c1 := Z16.out.cell (k := 1) rfl
  have Z16c2 := Z16.out.cell (k := 2) rfl
  have Z17l := Z17.out.lt
  have Z17c0 := Z17.out.cell (k := 0) rfl
  have Z17c1 := Z17.out.cell (k := 1) rfl
  have Z17c2 := Z17.out.cell (k := 2) rfl
  have Z17c3 := Z17.out.cell (k := 3) rfl
  go_wp2_with (fail)
  refine (JSync_is (n := jb.length) (m := 40) (s := jb.length) J16.out HSM.out D17.out P22.out P23.out P24.out rfl rfl rfl).mono ?_
  rintro e w13 ⟨A30, c30, A31, c31, A32, c32, rfl, hj, hd, hb, -, -⟩
  replace HW := Lib.hid (HW.out.upb hb)
  replace Z10 := Lib.hid (Z10.out.upb hb)
  replace Z11 := Lib.hid (Z11.out.upb hb)
  replace J10 := Lib.hid (J10.out.upb hb)
  replace D11 := Lib.hid (D11.out.upb hb)
  replace Z16 := Lib.hid (Z16.out.upb hb)
  replace Z17 := Lib.hid (Z17.out.upb hb)
  replace J16 := Lib.hid (J16.out.upb hb)
  replace D17 := Lib.hid (D17.out.upb hb)
  clear hb
  clear Z16l Z16c0 Z16c1 Z16c2 Z17l Z17c0 Z17c1 Z17c2 Z17c3
  simp only [List.length_nil] at hd ⊢
  have J19 := Lib.hid hj
  have D20 := Lib.hid hd
  clear hj hd
  go_upto_region 14 with (fail)
  replace HW := Lib.hid (HW.out.upb (al1 (w13) (.cells #[.slice A30 jb.length c30, .int .i64 40, .int .i64 jb.length] 29)))
  replace Z10 := Lib.hid (Z10.out.upb (al1 (w13) (.cells #[.slice A30 jb.length c30, .int .i64 40, .int .i64 jb.length] 29)))
  replace Z11 := Lib.hid (Z11.out.upb (al1 (w13) (.cells #[.slice A30 jb.length c30, .int .i64 40, .int .i64 jb.length] 29)))
  replace J10 := Lib.hid (J10.out.upb (al1 (w13) (.cells #[.slice A30 jb.length c30, .int .i64 40, .int .i64 jb.length] 29)))
  replace D11 := Lib.hid (D11.out.upb (al1 (w13) (.cells #[.slice A30 jb.length c30, .int .i64 40, .int .i64 jb.length] 29)))
  replace Z16 := Lib.hid (Z16.out.upb (al1 (w13) (.cells #[.slice A30 jb.length c30, .int .i64 40, .int .i64 jb.length] 29)))
  replace Z17 := Lib.hid (Z17.out.upb (al1 (w13) (.cells #[.slice A30 jb.length c30, .int .i64 40, .int .i64 jb.length] 29)))
  replace J16 := Lib.hid (J16.out.upb (al1 (w13) (.cells #[.slice A30 jb.length c30, .int .i64 40, .int .i64 jb.length] 29)))
  replace D17 := Lib.hid (D17.out.upb (al1 (w13) (.cells #[.slice A30 jb.length c30, .int .i64 40, .int .i64 jb.length] 29)))
  replace J19 := Lib.hid (J19.out.upb (al1 (w13) (.cells #[.slice A30 jb.length c30, .int .i64 40, .int .i64 jb.length] 29)))
  replace D20 := Lib.hid (D20.out.upb (al1 (w13) (.cells #[.slice A30 jb.length c30, .int .i64 40, .int .i64 jb.length] 29)))
  have Z19 := Lib.hid (Cells.new (w13) 29 [.slice A30 jb.length c30, .int .i64 40, .int .i64 jb.length])
  replace HW := Lib.hid (HW.out.upb (al1 ((w13).alloc (.cells #[.slice A30 jb.length c30, .int .i64 40, .int .i64 jb.length] 29)) (.cells #[.slice A31 s3.length c31, .slice A32 0 c32, .int .i64 (-1), .bool false] 25)))
  replace Z10 := Lib.hid (Z10.out.upb (al1 ((w13).alloc (.cells #[.slice A30 jb.length c30, .int .i64 40, .int .i64 jb.length] 29)) (.cells #[.slice A31 s3.length c31, .slice A32 0 c32, .int .i64 (-1), .bool false] 25)))
  replace Z11 := Lib.hid (Z11.out.upb (al1 ((w13).alloc (.cells #[.slice A30 jb.length c30, .int .i64 40, .int .i64 jb.length] 29)) (.cells #[.slice A31 s3.length c31, .slice A32 0 c32, .int .i64 (-1), .bool false] 25)))
  replace J10 := Lib.hid (J10.out.upb (al1 ((w13).alloc (.cells #[.slice A30 jb.length c30, .int .i64 40, .int .i64 jb.length] 29)) (.cells #[.slice A31 s3.length c31, .slice A32 0 c32, .int .i64 (-1), .bool false] 25)))
  replace D11 := Lib.hid (D11.out.upb (al1 ((w13).alloc (.cells #[.slice A30 jb.length c30, .int .i64 40, .int .i64 jb.length] 29)) (.cells #[.slice A31 s3.length c31, .slice A32 0 c32, .int .i64 (-1), .bool false] 25)))
  replace Z16 := Lib.hid (Z16.out.upb (al1 ((w13).alloc (.cells #[.slice A30 jb.length c30, .int .i64 40, .int .i64 jb.length] 29)) (.cells #[.slice A31 s3.length c31, .slice A32 0 c32, .int .i64 (-1), .bool false] 25)))
  replace Z17 := Lib.hid (Z17.out.upb (al1 ((w13).alloc (.cells #[.slice A30 jb.length c30, .int .i64 40, .int .i64 jb.length] 29)) (.cells #[.slice A31 s3.length c31, .slice A32 0 c32, .int .i64 (-1), .bool false] 25)))
  replace J16 := Lib.hid (J16.out.upb (al1 ((w13).alloc (.cells #[.slice A30 jb.length c30, .int .i64 40, .int .i64 jb.length] 29)) (.cells #[.slice A31 s3.length c31, .slice A32 0 c32, .int .i64 (-1), .bool false] 25)))
  replace D17 := Lib.hid (D17.out.upb (al1 ((w13).alloc (.cells #[.slice A30 jb.length c30, .int .i64 40, .int .i64 jb.length] 29)) (.cells #[.slice A31 s3.length c31, .slice A32 0 c32, .int .i64 (-1), .bool false] 25)))
  replace J19 := Lib.hid (J19.out.upb (al1 ((w13).alloc (.cells #[.slice A30 jb.length c30, .int .i64 40, .int .i64 jb.length] 29)) (.cells #[.slice A31 s3.length c31, .slice A32 0 c32, .int .i64 (-1), .bool false] 25)))
  replace D20 := Lib.hid (D20.out.upb (al1 ((w13).alloc (.cells #[.slice A30 jb.length c30, .int .i64 40, .int .i64 jb.length] 29)) (.cells #[.slice A31 s3.length c31, .slice A32 0 c32, .int .i64 (-1), .bool false] 25)))
  replace Z19 := Lib.hid (Z19.out.upb (al1 ((w13).alloc (.cells #[.slice A30 jb.length c30, .int .i64 40, .int .i64 jb.length] 29)) (.cells #[.slice A31 s3.length c31, .slice A32 0 c32, .int .i64 (-1), .bool false] 25)))
  have Z20 := Lib.hid (show Cells (((w13).alloc (.cells #[.slice A30 jb.length c30, .int .i64 40, .int .i64 jb.length] 29)).alloc (.cells #[.slice A31 s3.length c31, .slice A32 0 c32, .int .i64 (-1), .bool false] 25)) (w13.heap.size + 1) 25 [.slice A31 s3.length c31, .slice A32 0 c32, .int .i64 (-1), .bool false] from by have h := Cells.new ((w13).alloc (.cells #[.slice A30 jb.length c30, .int .i64 40, .int .i64 jb.length] 29)) 25 [.slice A31 s3.length c31, .slice A32 0 c32, .int .i64 (-1), .bool false]; simpa only [World.size_alloc] using h)
  generalize ((w13).alloc (.cells #[.slice A30 jb.length c30, .int .i64 40, .int .i64 jb.length] 29)).alloc (.cells #[.slice A31 s3.length c31, .slice A32 0 c32, .int .i64 (-1), .bool false] 25) = w14 at *
  have Z11l := Z11.out.lt
  have Z11c0 := Z11.out.cell (k := 0) rfl
  have Z11c1 := Z11.out.cell (k := 1) rfl
  have Z11c2 := Z11.out.cell (k := 2) rfl
  have Z11c3 := Z11.out.cell (k := 3) rfl
  go_wp2_with (fail)
  refine (Open_is (n := jb.length) (m := 40) (s := jb.length) D11.out P9.out P10.out rfl rfl rfl).mono ?_
  rintro e w14 ⟨A33, c33, rfl, hj, hb, -⟩
  replace HW := Lib.hid (HW.out.upb hb)
  replace Z10 := Lib.hid (Z10.out.upb hb)
  replace Z11 := Lib.hid (Z11.out.upb hb)
  replace J10 := Lib.hid (J10.out.upb hb)
  replace D11 := Lib.hid (D11.out.upb hb)
  replace Z16 := Lib.hid (Z16.out.upb hb)
  replace Z17 := Lib.hid (Z17.out.upb hb)
  replace J16 := Lib.hid (J16.out.upb hb)
  replace D17 := Lib.hid (D17.out.upb hb)
  replace J19 := Lib.hid (J19.out.upb hb)
  replace D20 := Lib.hid (D20.out.upb hb)
  replace Z19 := Lib.hid (Z19.out.upb hb)
  replace Z20 := Lib.hid (Z20.out.upb hb)
  clear hb
  clear Z11l Z11c0 Z11c1 Z11c2 Z11c3
  have J22 := Lib.hid hj
  clear hj
  go_upto_region 15 with (fail)
  replace HW := Lib.hid (HW.out.upb (al1 (w14) (.cells #[.slice A33 jb.length c33, .int .i64 40, .int .i64 jb.length] 29)))
  replace Z10 := Lib.hid (Z10.out.upb (al1 (w14) (.cells #[.slice A33 jb.length c33, .int .i64 40, .int .i64 jb.length] 29)))
  replace Z11 := Lib.hid (Z11.out.upb (al1 (w14) (.cells #[.slice A33 jb.length c33, .int .i64 40, .int .i64 jb.length] 29)))
  replace J10 := Lib.hid (J10.out.upb (al1 (w14) (.cells #[.slice A33 jb.length c33, .int .i64 40, .int .i64 jb.length] 29)))
  replace D11 := Lib.hid (D11.out.upb (al1 (w14) (.cells #[.slice A33 jb.length c33, .int .i64 40, .int .i64 jb.length] 29)))
  replace Z16 := Lib.hid (Z16.out.upb (al1 (w14) (.cells #[.slice A33 jb.length c33, .int .i64 40, .int .i64 jb.length] 29)))
  replace Z17 := Lib.hid (Z17.out.upb (al1 (w14) (.cells #[.slice A33 jb.length c33, .int .i64 40, .int .i64 jb.length] 29)))
  replace J16 := Lib.hid (J16.out.upb (al1 (w14) (.cells #[.slice A33 jb.length c33, .int .i64 40, .int .i64 jb.length] 29)))
  replace D17 := Lib.hid (D17.out.upb (al1 (w14) (.cells #[.slice A33 jb.length c33, .int .i64 40, .int .i64 jb.length] 29)))
  replace J19 := Lib.hid (J19.out.upb (al1 (w14) (.cells #[.slice A33 jb.length c33, .int .i64 40, .int .i64 jb.length] 29)))
  replace D20 := Lib.hid (D20.out.upb (al1 (w14) (.cells #[.slice A33 jb.length c33, .int .i64 40, .int .i64 jb.length] 29)))
  replace Z19 := Lib.hid (Z19.out.upb (al1 (w14) (.cells #[.slice A33 jb.length c33, .int .i64 40, .int .i64 jb.length] 29)))
  replace Z20 := Lib.hid (Z20.out.upb (al1 (w14) (.cells #[.slice A33 jb.length c33, .int .i64 40, .int .i64 jb.length] 29)))
  replace J22 := Lib.hid (J22.out.upb (al1 (w14) (.cells #[.slice A33 jb.length c33, .int .i64 40, .int .i64 jb.length] 29)))
  have Z22 := Lib.hid (Cells.new (w14) 29 [.slice A33 jb.length c33, .int .i64 40, .int .i64 jb.length])
  generalize (w14).alloc (.cells #[.slice A33 jb.length c33, .int .i64 40, .int .i64 jb.length] 29) = w15 at *
  have Z20l := Z20.out.lt
  have Z20c0 := Z20.out.cell (k := 0) rfl
  have Z20c1 := Z20.out.cell (k := 1) rfl
  have Z20c2 := Z20.out.cell (k := 2) rfl
  have Z20c3 := Z20.out.cell (k := 3) rfl
  go_wp2_with (fail)
  refine (Open_is (n := jb.length) (m := 40) (s := jb.length) D20.out P19.out P20.out rfl rfl rfl).mono ?_
  rintro e w15 ⟨A34, c34, rfl, hj, hb, -⟩
  replace HW := Lib.hid (HW.out.upb hb)
  replace Z10 := Lib.hid (Z10.out.upb hb)
  replace Z11 := Lib.hid (Z11.out.upb hb)
  replace J10 := Lib.hid (J10.out.upb hb)
  replace D11 := Lib.hid (D11.out.upb hb)
  replace Z16 := Lib.hid (Z16.out.upb hb)
  replace Z17 := Lib.hid (Z17.out.upb hb)
  replace J16 := Lib.hid (J16.out.upb hb)
  replace D17 := Lib.hid (D17.out.upb hb)
  replace J19 := Lib.hid (J19.out.upb hb)
  replace D20 := Lib.hid (D20.out.upb hb)
  replace Z19 := Lib.hid (Z19.out.upb hb)
  replace Z20 := Lib.hid (Z20.out.upb hb)
  replace J22 := Lib.hid (J22.out.upb hb)
  replace Z22 := Lib.hid (Z22.out.upb hb)
  clear hb
  clear Z20l Z20c0 Z20c1 Z20c2 Z20c3
  have J24 := Lib.hid hj
  clear hj
  go_upto_region 16 with (fail)
  replace HW := Lib.hid (HW.out.upb (al1 (w15) (.cells #[.slice A34 jb.length c34, .int .i64 40, .int .i64 jb.length] 29)))
  replace Z10 := Lib.hid (Z10.out.upb (al1 (w15) (.cells #[.slice A34 jb.length c34, .int .i64 40, .int .i64 jb.length] 29)))
  replace Z11 := Lib.hid (Z11.out.upb (al1 (w15) (.cells #[.slice A34 jb.length c34, .int .i64 40, .int .i64 jb.length] 29)))
  replace J10 := Lib.hid (J10.out.upb (al1 (w15) (.cells #[.slice A34 jb.length c34, .int .i64 40, .int .i64 jb.length] 29)))
  replace D11 := Lib.hid (D11.out.upb (al1 (w15) (.cells #[.slice A34 jb.length c34, .int .i64 40, .int .i64 jb.length] 29)))
  replace Z16 := Lib.hid (Z16.out.upb (al1 (w15) (.cells #[.slice A34 jb.length c34, .int .i64 40, .int .i64 jb.length] 29)))
  replace Z17 := Lib.hid (Z17.out.upb (al1 (w15) (.cells #[.slice A34 jb.length c34, .int .i64 40, .int .i64 jb.length] 29)))
  replace J16 := Lib.hid (J16.out.upb (al1 (w15) (.cells #[.slice A34 jb.length c34, .int .i64 40, .int .i64 jb.length] 29)))
  replace D17 := Lib.hid (D17.out.upb (al1 (w15) (.cells #[.slice A34 jb.length c34, .int .i64 40, .int .i64 jb.length] 29)))
  replace J19 := Lib.hid (J19.out.upb (al1 (w15) (.cells #[.slice A34 jb.length c34, .int .i64 40, .int .i64 jb.length] 29)))
  replace D20 := Lib.hid (D20.out.upb (al1 (w15) (.cells #[.slice A34 jb.length c34, .int .i64 40, .int .i64 jb.length] 29)))
  replace Z19 := Lib.hid (Z19.out.upb (al1 (w15) (.cells #[.slice A34 jb.length c34, .int .i64 40, .int .i64 jb.length] 29)))
  replace Z20 := Lib.hid (Z20.out.upb (al1 (w15) (.cells #[.slice A34 jb.length c34, .int .i64 40, .int .i64 jb.length] 29)))
  replace J22 := Lib.hid (J22.out.upb (al1 (w15) (.cells #[.slice A34 jb.length c34, .int .i64 40, .int .i64 jb.length] 29)))
  replace Z22 := Lib.hid (Z22.out.upb (al1 (w15) (.cells #[.slice A34 jb.length c34, .int .i64 40, .int .i64 jb.length] 29)))
  replace J24 := Lib.hid (J24.out.upb (al1 (w15) (.cells #[.slice A34 jb.length c34, .int .i64 40, .int .i64 jb.length] 29)))
  have Z24 := Lib.hid (Cells.new (w15) 29 [.slice A34 jb.length c34, .int .i64 40, .int .i64 jb.length])
  generalize (w15).alloc (.cells #[.slice A34 jb.length c34, .int .i64 40, .int .i64 jb.length] 29) = w16 at *
  have Z10l := Z10.out.lt
  have Z10c0 := Z10.out.cell (k := 0) rfl
  have Z10c1 := Z10.out.cell (k := 1) rfl
  have Z10c2 := Z10.out.cell (k := 2) rfl
  have Z16l := Z16.out.lt
  have Z16c0 := Z16.out.cell (k := 0) rfl
  have Z16c1 := Z16.out.cell (k := 1) rfl
  have Z16c2 := Z16.out.cell (k := 2) rfl
  go_wp2_with (fail)
  refine (JSame_is J10.out J16.out HJB.out (decide_eq_true rfl)).mono ?_
  rintro e w16 ⟨rfl, hb⟩
  replace HW := Lib.hid (HW.out.upb hb)
  replace Z10 := Lib.hid (Z10.out.upb hb)
  replace Z11 := Lib.hid (Z11.out.upb hb)
  replace J10 := Lib.hid (J10.out.upb hb)
  replace D11 := Lib.hid (D11.out.upb hb)
  replace Z16 := Lib.hid (Z16.out.upb hb)
  replace Z17 := Lib.hid (Z17.out.upb hb)
  replace J16 := Lib.hid (J16.out.upb hb)
  replace D17 := Lib.hid (D17.out.upb hb)
  replace J19 := Lib.hid (J19.out.upb hb)
  replace D20 := Lib.hid (D20.out.upb hb)
  replace Z19 := Lib.hid (Z19.out.upb hb)
  replace Z20 := Lib.hid (Z20.out.upb hb)
  replace J22 := Lib.hid (J22.out.upb hb)
  replace Z22 := Lib.hid (Z22.out.upb hb)
  replace J24 := Lib.hid (J24.out.upb hb)
  replace Z24 := Lib.hid (Z24.out.upb hb)
  clear hb
  clear Z10l Z10c0 Z10c1 Z10c2 Z16l Z16c0 Z16c1 Z16c2
  have Z19l := Z19.out.lt
  have Z19c0 := Z19.out.cell (k := 0) rfl
  have Z19c1 := Z19.out.cell (k := 1) rfl
  have Z19c2 := Z19.out.cell (k := 2) rfl
  have Z16l := Z16.out.lt
  have Z16c0 := Z16.out.cell (k := 0) rfl
  have Z16c1 := Z16.out.cell (k := 1) rfl
  have Z16c2 := Z16.out.cell (k := 2) rfl
  go_wp2_with (fail)
  refine (JSame_is J19.out J16.out HJB.out (decide_eq_true rfl)).mono ?_
  rintro e w17 ⟨rfl, hb⟩
  replace HW := Lib.hid (HW.out.upb hb)
  replace Z10 := Lib.hid (Z10.out.upb hb)
  replace Z11 := Lib.hid (Z11.out.upb hb)
  replace J10 := Lib.hid (J10.out.upb hb)
  replace D11 := Lib.hid (D11.out.upb hb)
  replace Z16 := Lib.hid (Z16.out.upb hb)
  replace Z17 := Lib.hid (Z17.out.upb hb)
  replace J16 := Lib.hid (J16.out.upb hb)
  replace D17 := Lib.hid (D17.out.upb hb)
  replace J19 := Lib.hid (J19.out.upb hb)
  replace D20 := Lib.hid (D20.out.upb hb)
  replace Z19 := Lib.hid (Z19.out.upb hb)
  replace Z20 := Lib.hid (Z20.out.upb hb)
  replace J22 := Lib.hid (J22.out.upb hb)
  replace Z22 := Lib.hid (Z22.out.upb hb)
  replace J24 := Lib.hid (J24.out.upb hb)
  replace Z24 := Lib.hid (Z24.out.upb hb)
  clear hb
  clear Z19l Z19c0 Z19c1 Z19c2 Z16l Z16c0 Z16c1 Z16c2
  have Z22l := Z22.out.lt
  have Z22c0 := Z22.out.cell (k := 0) rfl
  have Z22c1 := Z22.out.cell (k := 1) rfl
  have Z22c2 := Z22.out.cell (k := 2) rfl
  have Z24l := Z24.out.lt
  have Z24c0 := Z24.out.cell (k := 0) rfl
  have Z24c1 := Z24.out.cell (k := 1) rfl
  have Z24c2 := Z24.out.cell (k := 2) rfl
  go_wp2_with (fail)
  refine (recs_b (isJ_bs J22.out) (isJ_bs J24.out) HJB.out (decide_eq_true rfl)).mono ?_
  rintro e w18 ⟨rfl, hb⟩
  replace HW := Lib.hid (HW.out.upb hb)
  replace Z10 := Lib.hid (Z10.out.upb hb)
  replace Z11 := Lib.hid (Z11.out.upb hb)
  replace J10 := Lib.hid (J10.out.upb hb)
  replace D11 := Lib.hid (D11.out.upb hb)
  replace Z16 := Lib.hid (Z16.out.upb hb)
  replace Z17 := Lib.hid (Z17.out.upb hb)
  replace J16 := Lib.hid (J16.out.upb hb)
  replace D17 := Lib.hid (D17.out.upb hb)
  replace J19 := Lib.hid (J19.out.upb hb)
  replace D20 := Lib.hid (D20.out.upb hb)
  replace Z19 := Lib.hid (Z19.out.upb hb)
  replace Z20 := Lib.hid (Z20.out.upb hb)
  replace J22 := Lib.hid (J22.out.upb hb)
  replace Z22 := Lib.hid (Z22.out.upb hb)
  replace J24 := Lib.hid (J24.out.upb hb)
  replace Z24 := Lib.hid (Z24.out.upb hb)
  clear hb
  clear Z22l Z22c0 Z22c1 Z22c2 Z24l Z24c0 Z24c1 Z24c2
  have Z22l := Z22.out.lt
  have Z22c0 := Z22.out.cell (k := 0) rfl
  have Z22c1 := Z22.out.cell (k := 1) rfl
  have Z22c2 := Z22.out.cell (k := 2) rfl
  have Z10l := Z10.out.lt
  have Z10c0 := Z10.out.cell (k := 0) rfl
  have Z10c1 := Z10.out.cell (k := 1) rfl
  have Z10c2 := Z10.out.cell (k := 2) rfl
  go_wp2_with (fail)
  refine (recs_b (isJ_bs J22.out) (isJ_bs J10.out) HJB.out (decide_eq_true rfl)).mono ?_
  rintro e w19 ⟨rfl, hb⟩
  replace HW := Lib.hid (HW.out.upb hb)
  replace Z10 := Lib.hid (Z10.out.upb hb)
  replace Z11 := Lib.hid (Z11.out.upb hb)
  replace J10 := Lib.hid (J10.out.upb hb)
  replace D11 := Lib.hid (D11.out.upb hb)
  replace Z16 := Lib.hid (Z16.out.upb hb)
  replace Z17 := Lib.hid (Z17.out.upb hb)
  replace J16 := Lib.hid (J16.out.upb hb)
  replace D17 := Lib.hid (D17.out.upb hb)
  replace J19 := Lib.hid (J19.out.upb hb)
  replace D20 := Lib.hid (D20.out.upb hb)
  replace Z19 := Lib.hid (Z19.out.upb hb)
  replace Z20 := Lib.hid (Z20.out.upb hb)
  replace J22 := Lib.hid (J22.out.upb hb)
  replace Z22 := Lib.hid (Z22.out.upb hb)
  replace J24 := Lib.hid (J24.out.upb hb)
  replace Z24 := Lib.hid (Z24.out.upb hb)
  clear hb
  clear Z22l Z22c0 Z22c1 Z22c2 Z10l Z10c0 Z10c1 Z10c2
  have Z17l := Z17.out.lt
  have Z17c0 := Z17.out.cell (k := 0) rfl
  have Z17c1 := Z17.out.cell (k := 1) rfl
  have Z17c2 := Z17.out.cell (k := 2) rfl
  have Z17c3 := Z17.out.cell (k := 3) rfl
  have Z20l := Z20.out.lt
  have Z20c0 := Z20.out.cell (k := 0) rfl
  have Z20c1 := Z20.out.cell (k := 1) rfl
  have Z20c2 := Z20.out.cell (k := 2) rfl
  have Z20c3 := Z20.out.cell (k := 3) rfl
  go_wp2_with (fail)
  have HS3 := Lib.hid (show s3.length ≤ 9223372036854775807 by rw [P21.out]; decide)
  refine (Same_is D17.out D20.out HS3.out (Nat.zero_le _) (decide_eq_true rfl)).mono ?_
  rintro e w20 ⟨rfl, hb⟩
  replace HW := Lib.hid (HW.out.upb hb)
  replace Z10 := Lib.hid (Z10.out.upb hb)
  replace Z11 := Lib.hid (Z11.out.upb hb)
  replace J10 := Lib.hid (J10.out.upb hb)
  replace D11 := Lib.hid (D11.out.upb hb)
  replace Z16 := Lib.hid (Z16.out.upb hb)
  replace Z17 := Lib.hid (Z17.out.upb hb)
  replace J16 := Lib.hid (J16.out.upb hb)
  replace D17 := Lib.hid (D17.out.upb hb)
  replace J19 := Lib.hid (J19.out.upb hb)
  replace D20 := Lib.hid (D20.out.upb hb)
  replace Z19 := Lib.hid (Z19.out.upb hb)
  replace Z20 := Lib.hid (Z20.out.upb hb)
  replace J22 := Lib.hid (J22.out.upb hb)
  replace Z22 := Lib.hid (Z22.out.upb hb)
  replace J24 := Lib.hid (J24.out.upb hb)
  replace Z24 := Lib.hid (Z24.out.upb hb)
  clear hb
  clear Z17l Z17c0 Z17c1 Z17c2 Z17c3 Z20l Z20c0 Z20c1 Z20c2 Z20c3
  go_wp2_with (fail)
  go_ret
  exact ⟨rfl, HW.out.b⟩
end Go.Proofs.Ytkcnanclpkongaa

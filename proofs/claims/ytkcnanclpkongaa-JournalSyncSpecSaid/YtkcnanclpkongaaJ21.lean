/- Walks of the reference's generation, and of its Sector for any number. -/
import Derived.Test.YtkcnanclpkongaaJ20
import Derived.Test.YtkcnanclpkongaaL7
namespace Go.Proofs.Ytkcnanclpkongaa
open Go.RowKit
set_option linter.unusedVariables false
set_option linter.unusedSimpArgs false
set_option maxRecDepth 20000

set_option maxHeartbeats 4000000 in
set_option maxRecDepth 100000 in
theorem SectorQ_0 {g k : Nat} {q : Int} {v : Value} {p : By} {w : World} (hv : IsBytes w v p) (hl : p.length ≤ 112) (hg : g < 18446744073709551616) (hq : IntKind.u64.wrap q = (k : Int)) (hk : k < 18446744073709551616) :
    Calls Try.prog 47 #[.int .u64 g, .int .i64 q, .bool false, .bool false, v] w fun e w' => ∃ u, e = .returned u ∧ IsBytes w' u (Jn.sec g k (UInt8.ofNat 0) p) ∧ Below w.heap.size w w' := by
  have HV := Lib.hid hv
  obtain ⟨Ap, cp, rfl, hcp, _⟩ := id hv
  clear hv
  have hp2 : (p.length : Int) ≤ 112 := by omega
  go_enter Try.func47, Try.ntmps47
  go_wp2_with (fail)
  refine (numeral_any (n := k) (m := 2) (by omega) hk).mono ?_
  rintro e w1 ⟨u1, rfl, ho, hb⟩
  have HO1 := Lib.hid ho
  have HB1 := Lib.hid hb
  clear ho hb
  have HY := Lib.hid (show IsBytes (w1.alloc (.cells #[.int .u8 0, .int .u8 (p.length : Int)] 5)) (.slice (some ⟨w1.heap.size, 0, none⟩) 2 2) [(UInt8.ofNat 0), UInt8.ofNat p.length] from
    bytes_cells (bs := [(UInt8.ofNat 0), UInt8.ofNat p.length]) (by
      have h := Cells.new w1 5 [.int .u8 0, .int .u8 (p.length : Int)]
      have e : ([(UInt8.ofNat 0), UInt8.ofNat p.length] : By).map encB = [.int .u8 0, .int .u8 (p.length : Int)] := by
        simp only [List.map_cons, List.map_nil, encB, UInt8.toNat_ofNat']
        congr 2
        congr 1
        omega
      rw [e]
      exact h) rfl (Nat.le_refl _))
  have HL1 := Lib.hid (Jn.nml_len 2 k)
  go_upto_region 7 with (at_builtin; go_must (refine wpList_app rfl (.tmp 22) (.tmp 27) 35 _ _ rfl rfl rfl (appB_run (base := w.heap.size) _ (HO1.out.below (al1 w1 _)) HY.out (by rw [HL1.out]; simp) (by have := HB1.out.size; simp; omega)) ?_); rintro v2 w2 ⟨ho2, hg2, -⟩; have HO2 := Lib.hid ho2; have HB2 := Lib.hid (app_own (HO1.out.below (al1 w1 _)) (HB1.out.up (al1 w1 _)) hg2 (by have := HB1.out.size; simp; omega)); clear ho2 hg2)
  clear HY HO1 HB1
  have HL2 := Lib.hid (show (Jn.nml k 2 ++ [(UInt8.ofNat 0), UInt8.ofNat p.length]).length = 4 by rw [List.length_append, HL1.out]; rfl)
  have hb2 := HB2.out.size
  go_upto_region 8 with (at_builtin; go_must (refine wpList_app rfl (.tmp 29) (.tmp 30) 35 _ _ rfl rfl rfl (appB_run (base := w.heap.size) _ HO2.out (HV.out.upb HB2.out) (by rw [HL2.out]; omega) hb2) ?_); rintro v3 w3 ⟨ho3, hg3, -⟩; have HO3 := Lib.hid ho3; have HB3 := Lib.hid (app_own HO2.out HB2.out hg3 hb2); clear ho3 hg3)
  clear HO2 HB2 hb2
  have HL3 := Lib.hid (show ((Jn.nml k 2 ++ [(UInt8.ofNat 0), UInt8.ofNat p.length]) ++ p).length = 4 + p.length by rw [List.length_append, HL2.out])
  have hb3 := HB3.out.size
  have hsub : (112 : Int) - (p.length : Int) = ((112 - p.length : Nat) : Int) := by omega
  go_upto_region 9 with (at_builtin; go_must (refine wpList_app' rfl (.tmp 32) (.tmp 35) 35 3 _ _ rfl rfl rfl (appZ_run (base := w.heap.size) (k := 112 - p.length) _ HO3.out (by rw [HL3.out]; omega) (by rw [HL3.out]; omega) hb3) ?_); rintro v4 w4 ⟨ho4, hg4, -⟩; have HO4 := Lib.hid ho4; have HB4 := Lib.hid (app_own HO3.out HB3.out hg4 hb3); clear ho4 hg4)
  clear HO3 HB3 hb3 hsub
  have HBO := Lib.hid (show (Jn.nml k 2 ++ [(UInt8.ofNat 0), UInt8.ofNat p.length]) ++ p ++ List.replicate (112 - p.length) 0 = Jn.body k (UInt8.ofNat 0) p by
    unfold Jn.body; simp only [List.append_assoc])
  rw [HBO.out] at HO4
  clear HBO
  have HBL := Lib.hid (Jn.body_len (k := k) (kind := (UInt8.ofNat 0)) hl)
  obtain ⟨bo, hbo⟩ : ∃ b, Jn.body k (UInt8.ofNat 0) p = b := ⟨_, rfl⟩
  rw [hbo] at HO4 HBL
  have HBO := Lib.hid hbo
  clear hbo
  obtain ⟨cr, hcr⟩ : ∃ c, Jn.crc bo = c := ⟨_, rfl⟩
  have hcl : cr < 4294967296 := by rw [← hcr]; exact Jn.crc_lt _
  have HCR := Lib.hid hcr
  clear hcr
  go_wp2_with (fail)
  refine (numeral_any (n := g) (m := 4) (by omega) hg).mono ?_
  rintro e w5 ⟨u5, rfl, ho, hb⟩
  have HO5 := Lib.hid (ownB_base ho HB4.out.size)
  have HN4 := Lib.hid (own_apart HO4.out ho (by intro h; have := HBL.out; rw [h] at this; cases this))
  have HB5 := Lib.hid (HB4.out.up hb)
  replace HO4 := Lib.hid (HO4.out.below hb)
  clear ho hb HB4
  go_wp2_with (fail)
  refine (checksum_any (bs := bo) HO4.out.bytes (by rw [HBL.out]; omega)).mono ?_
  rintro e w6 ⟨rfl, rfl⟩
  rw [HCR.out]
  go_wp2_with (fail)
  refine (numeral_any (n := cr) (m := 4) (by omega) (by omega)).mono ?_
  rintro e w6 ⟨u6, rfl, ho, hb⟩
  have HO6 := Lib.hid (ownB_base ho HB5.out.size)
  have HB6 := Lib.hid (HB5.out.up hb)
  replace HO4 := Lib.hid (HO4.out.below hb)
  have HN5 := Lib.hid (show u5.ownBlock ≠ u6.ownBlock from own_apart HO5.out ho (by intro h; have := Jn.nml_len 4 g; rw [h] at this; cases this))
  replace HO5 := Lib.hid (HO5.out.below hb)
  clear ho hb HB5
  have hb6 := HB6.out.size
  go_upto_region 10 with (at_builtin; go_must (refine wpList_app rfl (.tmp 38) (.tmp 42) 35 _ _ rfl rfl rfl (appB_run (base := w.heap.size) _ HO5.out HO6.out.bytes (by rw [Jn.nml_len, Jn.nml_len]; omega) hb6) ?_); rintro v7 w7 ⟨ho7, hg7, -⟩; have HO7 := Lib.hid ho7; have HG7 := Lib.hid hg7; clear ho7 hg7)
  have HB7 := Lib.hid (app_own HO5.out HB6.out HG7.out hb6)
  replace HO4 := Lib.hid (World.ownsRow.kept HO4.out HG7.out (.inr HN4.out))
  clear HO5 HO6 HB6 HG7 HN4 HN5 hb6
  have hb7 := HB7.out.size
  have HL7 := Lib.hid (show (Jn.nml g 4 ++ Jn.nml cr 4).length = 8 by rw [List.length_append, Jn.nml_len, Jn.nml_len])
  go_wp2_with (at_builtin; go_must (refine wpList_app rfl (.tmp 44) (.tmp 45) 35 _ _ rfl rfl rfl (appB_run (base := w.heap.size) _ HO7.out (show OwnBytes w7 w.heap.size v4 bo from HO4.out).bytes (by rw [HL7.out, HBL.out]; omega) hb7) ?_); rintro v8 w8 ⟨ho8, hg8, -⟩; have HO8 := Lib.hid ho8; have HB8 := Lib.hid (app_own HO7.out HB7.out hg8 hb7); clear ho8 hg8)
  clear HO7 HB7 hb7 HO4
  refine (numeral_any (n := g) (m := 4) (by omega) hg).mono ?_
  rintro e w9 ⟨u9, rfl, ho, hb⟩
  have HO9 := Lib.hid (ownB_base ho HB8.out.size)
  have HB9 := Lib.hid (HB8.out.up hb)
  replace HO8 := Lib.hid (HO8.out.below hb)
  clear ho hb HB8
  have hb9 := HB9.out.size
  have HL8 := Lib.hid (show (Jn.nml g 4 ++ Jn.nml cr 4 ++ bo).length = 124 by rw [List.length_append, HL7.out, HBL.out])
  go_wp2_with (at_builtin; go_must (refine wpList_app rfl (.tmp 46) (.tmp 48) 35 _ _ rfl rfl rfl (appB_run (base := w.heap.size) _ HO8.out HO9.out.bytes (by rw [HL8.out, Jn.nml_len]; omega) hb9) ?_); rintro v10 w10 ⟨ho10, hg10, -⟩; have HO10 := Lib.hid ho10; have HB10 := Lib.hid (app_own HO8.out HB9.out hg10 hb9); clear ho10 hg10)
  go_ret
  refine ⟨_, rfl, ?_, HB10.out⟩
  have h := HO10.out.bytes
  rw [← HCR.out, ← HBO.out, List.append_assoc, List.append_assoc] at h
  exact h
set_option maxHeartbeats 4000000 in
set_option maxRecDepth 100000 in
theorem SectorQ_1 {g k : Nat} {q : Int} {v : Value} {p : By} {w : World} (hv : IsBytes w v p) (hl : p.length ≤ 112) (hg : g < 18446744073709551616) (hq : IntKind.u64.wrap q = (k : Int)) (hk : k < 18446744073709551616) :
    Calls Try.prog 47 #[.int .u64 g, .int .i64 q, .bool true, .bool false, v] w fun e w' => ∃ u, e = .returned u ∧ IsBytes w' u (Jn.sec g k (UInt8.ofNat 1) p) ∧ Below w.heap.size w w' := by
  have HV := Lib.hid hv
  obtain ⟨Ap, cp, rfl, hcp, _⟩ := id hv
  clear hv
  have hp2 : (p.length : Int) ≤ 112 := by omega
  go_enter Try.func47, Try.ntmps47
  go_wp2_with (fail)
  refine (numeral_any (n := k) (m := 2) (by omega) hk).mono ?_
  rintro e w1 ⟨u1, rfl, ho, hb⟩
  have HO1 := Lib.hid ho
  have HB1 := Lib.hid hb
  clear ho hb
  have HY := Lib.hid (show IsBytes (w1.alloc (.cells #[.int .u8 1, .int .u8 (p.length : Int)] 5)) (.slice (some ⟨w1.heap.size, 0, none⟩) 2 2) [(UInt8.ofNat 1), UInt8.ofNat p.length] from
    bytes_cells (bs := [(UInt8.ofNat 1), UInt8.ofNat p.length]) (by
      have h := Cells.new w1 5 [.int .u8 1, .int .u8 (p.length : Int)]
      have e : ([(UInt8.ofNat 1), UInt8.ofNat p.length] : By).map encB = [.int .u8 1, .int .u8 (p.length : Int)] := by
        simp only [List.map_cons, List.map_nil, encB, UInt8.toNat_ofNat']
        congr 2
        congr 1
        omega
      rw [e]
      exact h) rfl (Nat.le_refl _))
  have HL1 := Lib.hid (Jn.nml_len 2 k)
  go_upto_region 7 with (at_builtin; go_must (refine wpList_app rfl (.tmp 22) (.tmp 27) 35 _ _ rfl rfl rfl (appB_run (base := w.heap.size) _ (HO1.out.below (al1 w1 _)) HY.out (by rw [HL1.out]; simp) (by have := HB1.out.size; simp; omega)) ?_); rintro v2 w2 ⟨ho2, hg2, -⟩; have HO2 := Lib.hid ho2; have HB2 := Lib.hid (app_own (HO1.out.below (al1 w1 _)) (HB1.out.up (al1 w1 _)) hg2 (by have := HB1.out.size; simp; omega)); clear ho2 hg2)
  clear HY HO1 HB1
  have HL2 := Lib.hid (show (Jn.nml k 2 ++ [(UInt8.ofNat 1), UInt8.ofNat p.length]).length = 4 by rw [List.length_append, HL1.out]; rfl)
  have hb2 := HB2.out.size
  go_upto_region 8 with (at_builtin; go_must (refine wpList_app rfl (.tmp 29) (.tmp 30) 35 _ _ rfl rfl rfl (appB_run (base := w.heap.size) _ HO2.out (HV.out.upb HB2.out) (by rw [HL2.out]; omega) hb2) ?_); rintro v3 w3 ⟨ho3, hg3, -⟩; have HO3 := Lib.hid ho3; have HB3 := Lib.hid (app_own HO2.out HB2.out hg3 hb2); clear ho3 hg3)
  clear HO2 HB2 hb2
  have HL3 := Lib.hid (show ((Jn.nml k 2 ++ [(UInt8.ofNat 1), UInt8.ofNat p.length]) ++ p).length = 4 + p.length by rw [List.length_append, HL2.out])
  have hb3 := HB3.out.size
  have hsub : (112 : Int) - (p.length : Int) = ((112 - p.length : Nat) : Int) := by omega
  go_upto_region 9 with (at_builtin; go_must (refine wpList_app' rfl (.tmp 32) (.tmp 35) 35 3 _ _ rfl rfl rfl (appZ_run (base := w.heap.size) (k := 112 - p.length) _ HO3.out (by rw [HL3.out]; omega) (by rw [HL3.out]; omega) hb3) ?_); rintro v4 w4 ⟨ho4, hg4, -⟩; have HO4 := Lib.hid ho4; have HB4 := Lib.hid (app_own HO3.out HB3.out hg4 hb3); clear ho4 hg4)
  clear HO3 HB3 hb3 hsub
  have HBO := Lib.hid (show (Jn.nml k 2 ++ [(UInt8.ofNat 1), UInt8.ofNat p.length]) ++ p ++ List.replicate (112 - p.length) 0 = Jn.body k (UInt8.ofNat 1) p by
    unfold Jn.body; simp only [List.append_assoc])
  rw [HBO.out] at HO4
  clear HBO
  have HBL := Lib.hid (Jn.body_len (k := k) (kind := (UInt8.ofNat 1)) hl)
  obtain ⟨bo, hbo⟩ : ∃ b, Jn.body k (UInt8.ofNat 1) p = b := ⟨_, rfl⟩
  rw [hbo] at HO4 HBL
  have HBO := Lib.hid hbo
  clear hbo
  obtain ⟨cr, hcr⟩ : ∃ c, Jn.crc bo = c := ⟨_, rfl⟩
  have hcl : cr < 4294967296 := by rw [← hcr]; exact Jn.crc_lt _
  have HCR := Lib.hid hcr
  clear hcr
  go_wp2_with (fail)
  refine (numeral_any (n := g) (m := 4) (by omega) hg).mono ?_
  rintro e w5 ⟨u5, rfl, ho, hb⟩
  have HO5 := Lib.hid (ownB_base ho HB4.out.size)
  have HN4 := Lib.hid (own_apart HO4.out ho (by intro h; have := HBL.out; rw [h] at this; cases this))
  have HB5 := Lib.hid (HB4.out.up hb)
  replace HO4 := Lib.hid (HO4.out.below hb)
  clear ho hb HB4
  go_wp2_with (fail)
  refine (checksum_any (bs := bo) HO4.out.bytes (by rw [HBL.out]; omega)).mono ?_
  rintro e w6 ⟨rfl, rfl⟩
  rw [HCR.out]
  go_wp2_with (fail)
  refine (numeral_any (n := cr) (m := 4) (by omega) (by omega)).mono ?_
  rintro e w6 ⟨u6, rfl, ho, hb⟩
  have HO6 := Lib.hid (ownB_base ho HB5.out.size)
  have HB6 := Lib.hid (HB5.out.up hb)
  replace HO4 := Lib.hid (HO4.out.below hb)
  have HN5 := Lib.hid (show u5.ownBlock ≠ u6.ownBlock from own_apart HO5.out ho (by intro h; have := Jn.nml_len 4 g; rw [h] at this; cases this))
  replace HO5 := Lib.hid (HO5.out.below hb)
  clear ho hb HB5
  have hb6 := HB6.out.size
  go_upto_region 10 with (at_builtin; go_must (refine wpList_app rfl (.tmp 38) (.tmp 42) 35 _ _ rfl rfl rfl (appB_run (base := w.heap.size) _ HO5.out HO6.out.bytes (by rw [Jn.nml_len, Jn.nml_len]; omega) hb6) ?_); rintro v7 w7 ⟨ho7, hg7, -⟩; have HO7 := Lib.hid ho7; have HG7 := Lib.hid hg7; clear ho7 hg7)
  have HB7 := Lib.hid (app_own HO5.out HB6.out HG7.out hb6)
  replace HO4 := Lib.hid (World.ownsRow.kept HO4.out HG7.out (.inr HN4.out))
  clear HO5 HO6 HB6 HG7 HN4 HN5 hb6
  have hb7 := HB7.out.size
  have HL7 := Lib.hid (show (Jn.nml g 4 ++ Jn.nml cr 4).length = 8 by rw [List.length_append, Jn.nml_len, Jn.nml_len])
  go_wp2_with (at_builtin; go_must (refine wpList_app rfl (.tmp 44) (.tmp 45) 35 _ _ rfl rfl rfl (appB_run (base := w.heap.size) _ HO7.out (show OwnBytes w7 w.heap.size v4 bo from HO4.out).bytes (by rw [HL7.out, HBL.out]; omega) hb7) ?_); rintro v8 w8 ⟨ho8, hg8, -⟩; have HO8 := Lib.hid ho8; have HB8 := Lib.hid (app_own HO7.out HB7.out hg8 hb7); clear ho8 hg8)
  clear HO7 HB7 hb7 HO4
  refine (numeral_any (n := g) (m := 4) (by omega) hg).mono ?_
  rintro e w9 ⟨u9, rfl, ho, hb⟩
  have HO9 := Lib.hid (ownB_base ho HB8.out.size)
  have HB9 := Lib.hid (HB8.out.up hb)
  replace HO8 := Lib.hid (HO8.out.below hb)
  clear ho hb HB8
  have hb9 := HB9.out.size
  have HL8 := Lib.hid (show (Jn.nml g 4 ++ Jn.nml cr 4 ++ bo).length = 124 by rw [List.length_append, HL7.out, HBL.out])
  go_wp2_with (at_builtin; go_must (refine wpList_app rfl (.tmp 46) (.tmp 48) 35 _ _ rfl rfl rfl (appB_run (base := w.heap.size) _ HO8.out HO9.out.bytes (by rw [HL8.out, Jn.nml_len]; omega) hb9) ?_); rintro v10 w10 ⟨ho10, hg10, -⟩; have HO10 := Lib.hid ho10; have HB10 := Lib.hid (app_own HO8.out HB9.out hg10 hb9); clear ho10 hg10)
  go_ret
  refine ⟨_, rfl, ?_, HB10.out⟩
  have h := HO10.out.bytes
  rw [← HCR.out, ← HBO.out, List.append_assoc, List.append_assoc] at h
  exact h
set_option maxHeartbeats 4000000 in
set_option maxRecDepth 100000 in
theorem SectorQ_2 {g k : Nat} {q : Int} {v : Value} {p : By} {w : World} (hv : IsBytes w v p) (hl : p.length ≤ 112) (hg : g < 18446744073709551616) (hq : IntKind.u64.wrap q = (k : Int)) (hk : k < 18446744073709551616) :
    Calls Try.prog 47 #[.int .u64 g, .int .i64 q, .bool false, .bool true, v] w fun e w' => ∃ u, e = .returned u ∧ IsBytes w' u (Jn.sec g k (UInt8.ofNat 2) p) ∧ Below w.heap.size w w' := by
  have HV := Lib.hid hv
  obtain ⟨Ap, cp, rfl, hcp, _⟩ := id hv
  clear hv
  have hp2 : (p.length : Int) ≤ 112 := by omega
  go_enter Try.func47, Try.ntmps47
  go_wp2_with (fail)
  refine (numeral_any (n := k) (m := 2) (by omega) hk).mono ?_
  rintro e w1 ⟨u1, rfl, ho, hb⟩
  have HO1 := Lib.hid ho
  have HB1 := Lib.hid hb
  clear ho hb
  have HY := Lib.hid (show IsBytes (w1.alloc (.cells #[.int .u8 2, .int .u8 (p.length : Int)] 5)) (.slice (some ⟨w1.heap.size, 0, none⟩) 2 2) [(UInt8.ofNat 2), UInt8.ofNat p.length] from
    bytes_cells (bs := [(UInt8.ofNat 2), UInt8.ofNat p.length]) (by
      have h := Cells.new w1 5 [.int .u8 2, .int .u8 (p.length : Int)]
      have e : ([(UInt8.ofNat 2), UInt8.ofNat p.length] : By).map encB = [.int .u8 2, .int .u8 (p.length : Int)] := by
        simp only [List.map_cons, List.map_nil, encB, UInt8.toNat_ofNat']
        congr 2
        congr 1
        omega
      rw [e]
      exact h) rfl (Nat.le_refl _))
  have HL1 := Lib.hid (Jn.nml_len 2 k)
  go_upto_region 7 with (at_builtin; go_must (refine wpList_app rfl (.tmp 22) (.tmp 27) 35 _ _ rfl rfl rfl (appB_run (base := w.heap.size) _ (HO1.out.below (al1 w1 _)) HY.out (by rw [HL1.out]; simp) (by have := HB1.out.size; simp; omega)) ?_); rintro v2 w2 ⟨ho2, hg2, -⟩; have HO2 := Lib.hid ho2; have HB2 := Lib.hid (app_own (HO1.out.below (al1 w1 _)) (HB1.out.up (al1 w1 _)) hg2 (by have := HB1.out.size; simp; omega)); clear ho2 hg2)
  clear HY HO1 HB1
  have HL2 := Lib.hid (show (Jn.nml k 2 ++ [(UInt8.ofNat 2), UInt8.ofNat p.length]).length = 4 by rw [List.length_append, HL1.out]; rfl)
  have hb2 := HB2.out.size
  go_upto_region 8 with (at_builtin; go_must (refine wpList_app rfl (.tmp 29) (.tmp 30) 35 _ _ rfl rfl rfl (appB_run (base := w.heap.size) _ HO2.out (HV.out.upb HB2.out) (by rw [HL2.out]; omega) hb2) ?_); rintro v3 w3 ⟨ho3, hg3, -⟩; have HO3 := Lib.hid ho3; have HB3 := Lib.hid (app_own HO2.out HB2.out hg3 hb2); clear ho3 hg3)
  clear HO2 HB2 hb2
  have HL3 := Lib.hid (show ((Jn.nml k 2 ++ [(UInt8.ofNat 2), UInt8.ofNat p.length]) ++ p).length = 4 + p.length by rw [List.length_append, HL2.out])
  have hb3 := HB3.out.size
  have hsub : (112 : Int) - (p.length : Int) = ((112 - p.length : Nat) : Int) := by omega
  go_upto_region 9 with (at_builtin; go_must (refine wpList_app' rfl (.tmp 32) (.tmp 35) 35 3 _ _ rfl rfl rfl (appZ_run (base := w.heap.size) (k := 112 - p.length) _ HO3.out (by rw [HL3.out]; omega) (by rw [HL3.out]; omega) hb3) ?_); rintro v4 w4 ⟨ho4, hg4, -⟩; have HO4 := Lib.hid ho4; have HB4 := Lib.hid (app_own HO3.out HB3.out hg4 hb3); clear ho4 hg4)
  clear HO3 HB3 hb3 hsub
  have HBO := Lib.hid (show (Jn.nml k 2 ++ [(UInt8.ofNat 2), UInt8.ofNat p.length]) ++ p ++ List.replicate (112 - p.length) 0 = Jn.body k (UInt8.ofNat 2) p by
    unfold Jn.body; simp only [List.append_assoc])
  rw [HBO.out] at HO4
  clear HBO
  have HBL := Lib.hid (Jn.body_len (k := k) (kind := (UInt8.ofNat 2)) hl)
  obtain ⟨bo, hbo⟩ : ∃ b, Jn.body k (UInt8.ofNat 2) p = b := ⟨_, rfl⟩
  rw [hbo] at HO4 HBL
  have HBO := Lib.hid hbo
  clear hbo
  obtain ⟨cr, hcr⟩ : ∃ c, Jn.crc bo = c := ⟨_, rfl⟩
  have hcl : cr < 4294967296 := by rw [← hcr]; exact Jn.crc_lt _
  have HCR := Lib.hid hcr
  clear hcr
  go_wp2_with (fail)
  refine (numeral_any (n := g) (m := 4) (by omega) hg).mono ?_
  rintro e w5 ⟨u5, rfl, ho, hb⟩
  have HO5 := Lib.hid (ownB_base ho HB4.out.size)
  have HN4 := Lib.hid (own_apart HO4.out ho (by intro h; have := HBL.out; rw [h] at this; cases this))
  have HB5 := Lib.hid (HB4.out.up hb)
  replace HO4 := Lib.hid (HO4.out.below hb)
  clear ho hb HB4
  go_wp2_with (fail)
  refine (checksum_any (bs := bo) HO4.out.bytes (by rw [HBL.out]; omega)).mono ?_
  rintro e w6 ⟨rfl, rfl⟩
  rw [HCR.out]
  go_wp2_with (fail)
  refine (numeral_any (n := cr) (m := 4) (by omega) (by omega)).mono ?_
  rintro e w6 ⟨u6, rfl, ho, hb⟩
  have HO6 := Lib.hid (ownB_base ho HB5.out.size)
  have HB6 := Lib.hid (HB5.out.up hb)
  replace HO4 := Lib.hid (HO4.out.below hb)
  have HN5 := Lib.hid (show u5.ownBlock ≠ u6.ownBlock from own_apart HO5.out ho (by intro h; have := Jn.nml_len 4 g; rw [h] at this; cases this))
  replace HO5 := Lib.hid (HO5.out.below hb)
  clear ho hb HB5
  have hb6 := HB6.out.size
  go_upto_region 10 with (at_builtin; go_must (refine wpList_app rfl (.tmp 38) (.tmp 42) 35 _ _ rfl rfl rfl (appB_run (base := w.heap.size) _ HO5.out HO6.out.bytes (by rw [Jn.nml_len, Jn.nml_len]; omega) hb6) ?_); rintro v7 w7 ⟨ho7, hg7, -⟩; have HO7 := Lib.hid ho7; have HG7 := Lib.hid hg7; clear ho7 hg7)
  have HB7 := Lib.hid (app_own HO5.out HB6.out HG7.out hb6)
  replace HO4 := Lib.hid (World.ownsRow.kept HO4.out HG7.out (.inr HN4.out))
  clear HO5 HO6 HB6 HG7 HN4 HN5 hb6
  have hb7 := HB7.out.size
  have HL7 := Lib.hid (show (Jn.nml g 4 ++ Jn.nml cr 4).length = 8 by rw [List.length_append, Jn.nml_len, Jn.nml_len])
  go_wp2_with (at_builtin; go_must (refine wpList_app rfl (.tmp 44) (.tmp 45) 35 _ _ rfl rfl rfl (appB_run (base := w.heap.size) _ HO7.out (show OwnBytes w7 w.heap.size v4 bo from HO4.out).bytes (by rw [HL7.out, HBL.out]; omega) hb7) ?_); rintro v8 w8 ⟨ho8, hg8, -⟩; have HO8 := Lib.hid ho8; have HB8 := Lib.hid (app_own HO7.out HB7.out hg8 hb7); clear ho8 hg8)
  clear HO7 HB7 hb7 HO4
  refine (numeral_any (n := g) (m := 4) (by omega) hg).mono ?_
  rintro e w9 ⟨u9, rfl, ho, hb⟩
  have HO9 := Lib.hid (ownB_base ho HB8.out.size)
  have HB9 := Lib.hid (HB8.out.up hb)
  replace HO8 := Lib.hid (HO8.out.below hb)
  clear ho hb HB8
  have hb9 := HB9.out.size
  have HL8 := Lib.hid (show (Jn.nml g 4 ++ Jn.nml cr 4 ++ bo).length = 124 by rw [List.length_append, HL7.out, HBL.out])
  go_wp2_with (at_builtin; go_must (refine wpList_app rfl (.tmp 46) (.tmp 48) 35 _ _ rfl rfl rfl (appB_run (base := w.heap.size) _ HO8.out HO9.out.bytes (by rw [HL8.out, Jn.nml_len]; omega) hb9) ?_); rintro v10 w10 ⟨ho10, hg10, -⟩; have HO10 := Lib.hid ho10; have HB10 := Lib.hid (app_own HO8.out HB9.out hg10 hb9); clear ho10 hg10)
  go_ret
  refine ⟨_, rfl, ?_, HB10.out⟩
  have h := HO10.out.bytes
  rw [← HCR.out, ← HBO.out, List.append_assoc, List.append_assoc] at h
  exact h
set_option maxHeartbeats 4000000 in
set_option maxRecDepth 100000 in
theorem SectorQ_3 {g k : Nat} {q : Int} {v : Value} {p : By} {w : World} (hv : IsBytes w v p) (hl : p.length ≤ 112) (hg : g < 18446744073709551616) (hq : IntKind.u64.wrap q = (k : Int)) (hk : k < 18446744073709551616) :
    Calls Try.prog 47 #[.int .u64 g, .int .i64 q, .bool true, .bool true, v] w fun e w' => ∃ u, e = .returned u ∧ IsBytes w' u (Jn.sec g k (UInt8.ofNat 3) p) ∧ Below w.heap.size w w' := by
  have HV := Lib.hid hv
  obtain ⟨Ap, cp, rfl, hcp, _⟩ := id hv
  clear hv
  have hp2 : (p.length : Int) ≤ 112 := by omega
  go_enter Try.func47, Try.ntmps47
  go_wp2_with (fail)
  refine (numeral_any (n := k) (m := 2) (by omega) hk).mono ?_
  rintro e w1 ⟨u1, rfl, ho, hb⟩
  have HO1 := Lib.hid ho
  have HB1 := Lib.hid hb
  clear ho hb
  have HY := Lib.hid (show IsBytes (w1.alloc (.cells #[.int .u8 3, .int .u8 (p.length : Int)] 5)) (.slice (some ⟨w1.heap.size, 0, none⟩) 2 2) [(UInt8.ofNat 3), UInt8.ofNat p.length] from
    bytes_cells (bs := [(UInt8.ofNat 3), UInt8.ofNat p.length]) (by
      have h := Cells.new w1 5 [.int .u8 3, .int .u8 (p.length : Int)]
      have e : ([(UInt8.ofNat 3), UInt8.ofNat p.length] : By).map encB = [.int .u8 3, .int .u8 (p.length : Int)] := by
        simp only [List.map_cons, List.map_nil, encB, UInt8.toNat_ofNat']
        congr 2
        congr 1
        omega
      rw [e]
      exact h) rfl (Nat.le_refl _))
  have HL1 := Lib.hid (Jn.nml_len 2 k)
  go_upto_region 7 with (at_builtin; go_must (refine wpList_app rfl (.tmp 22) (.tmp 27) 35 _ _ rfl rfl rfl (appB_run (base := w.heap.size) _ (HO1.out.below (al1 w1 _)) HY.out (by rw [HL1.out]; simp) (by have := HB1.out.size; simp; omega)) ?_); rintro v2 w2 ⟨ho2, hg2, -⟩; have HO2 := Lib.hid ho2; have HB2 := Lib.hid (app_own (HO1.out.below (al1 w1 _)) (HB1.out.up (al1 w1 _)) hg2 (by have := HB1.out.size; simp; omega)); clear ho2 hg2)
  clear HY HO1 HB1
  have HL2 := Lib.hid (show (Jn.nml k 2 ++ [(UInt8.ofNat 3), UInt8.ofNat p.length]).length = 4 by rw [List.length_append, HL1.out]; rfl)
  have hb2 := HB2.out.size
  go_upto_region 8 with (at_builtin; go_must (refine wpList_app rfl (.tmp 29) (.tmp 30) 35 _ _ rfl rfl rfl (appB_run (base := w.heap.size) _ HO2.out (HV.out.upb HB2.out) (by rw [HL2.out]; omega) hb2) ?_); rintro v3 w3 ⟨ho3, hg3, -⟩; have HO3 := Lib.hid ho3; have HB3 := Lib.hid (app_own HO2.out HB2.out hg3 hb2); clear ho3 hg3)
  clear HO2 HB2 hb2
  have HL3 := Lib.hid (show ((Jn.nml k 2 ++ [(UInt8.ofNat 3), UInt8.ofNat p.length]) ++ p).length = 4 + p.length by rw [List.length_append, HL2.out])
  have hb3 := HB3.out.size
  have hsub : (112 : Int) - (p.length : Int) = ((112 - p.length : Nat) : Int) := by omega
  go_upto_region 9 with (at_builtin; go_must (refine wpList_app' rfl (.tmp 32) (.tmp 35) 35 3 _ _ rfl rfl rfl (appZ_run (base := w.heap.size) (k := 112 - p.length) _ HO3.out (by rw [HL3.out]; omega) (by rw [HL3.out]; omega) hb3) ?_); rintro v4 w4 ⟨ho4, hg4, -⟩; have HO4 := Lib.hid ho4; have HB4 := Lib.hid (app_own HO3.out HB3.out hg4 hb3); clear ho4 hg4)
  clear HO3 HB3 hb3 hsub
  have HBO := Lib.hid (show (Jn.nml k 2 ++ [(UInt8.ofNat 3), UInt8.ofNat p.length]) ++ p ++ List.replicate (112 - p.length) 0 = Jn.body k (UInt8.ofNat 3) p by
    unfold Jn.body; simp only [List.append_assoc])
  rw [HBO.out] at HO4
  clear HBO
  have HBL := Lib.hid (Jn.body_len (k := k) (kind := (UInt8.ofNat 3)) hl)
  obtain ⟨bo, hbo⟩ : ∃ b, Jn.body k (UInt8.ofNat 3) p = b := ⟨_, rfl⟩
  rw [hbo] at HO4 HBL
  have HBO := Lib.hid hbo
  clear hbo
  obtain ⟨cr, hcr⟩ : ∃ c, Jn.crc bo = c := ⟨_, rfl⟩
  have hcl : cr < 4294967296 := by rw [← hcr]; exact Jn.crc_lt _
  have HCR := Lib.hid hcr
  clear hcr
  go_wp2_with (fail)
  refine (numeral_any (n := g) (m := 4) (by omega) hg).mono ?_
  rintro e w5 ⟨u5, rfl, ho, hb⟩
  have HO5 := Lib.hid (ownB_base ho HB4.out.size)
  have HN4 := Lib.hid (own_apart HO4.out ho (by intro h; have := HBL.out; rw [h] at this; cases this))
  have HB5 := Lib.hid (HB4.out.up hb)
  replace HO4 := Lib.hid (HO4.out.below hb)
  clear ho hb HB4
  go_wp2_with (fail)
  refine (checksum_any (bs := bo) HO4.out.bytes (by rw [HBL.out]; omega)).mono ?_
  rintro e w6 ⟨rfl, rfl⟩
  rw [HCR.out]
  go_wp2_with (fail)
  refine (numeral_any (n := cr) (m := 4) (by omega) (by omega)).mono ?_
  rintro e w6 ⟨u6, rfl, ho, hb⟩
  have HO6 := Lib.hid (ownB_base ho HB5.out.size)
  have HB6 := Lib.hid (HB5.out.up hb)
  replace HO4 := Lib.hid (HO4.out.below hb)
  have HN5 := Lib.hid (show u5.ownBlock ≠ u6.ownBlock from own_apart HO5.out ho (by intro h; have := Jn.nml_len 4 g; rw [h] at this; cases this))
  replace HO5 := Lib.hid (HO5.out.below hb)
  clear ho hb HB5
  have hb6 := HB6.out.size
  go_upto_region 10 with (at_builtin; go_must (refine wpList_app rfl (.tmp 38) (.tmp 42) 35 _ _ rfl rfl rfl (appB_run (base := w.heap.size) _ HO5.out HO6.out.bytes (by rw [Jn.nml_len, Jn.nml_len]; omega) hb6) ?_); rintro v7 w7 ⟨ho7, hg7, -⟩; have HO7 := Lib.hid ho7; have HG7 := Lib.hid hg7; clear ho7 hg7)
  have HB7 := Lib.hid (app_own HO5.out HB6.out HG7.out hb6)
  replace HO4 := Lib.hid (World.ownsRow.kept HO4.out HG7.out (.inr HN4.out))
  clear HO5 HO6 HB6 HG7 HN4 HN5 hb6
  have hb7 := HB7.out.size
  have HL7 := Lib.hid (show (Jn.nml g 4 ++ Jn.nml cr 4).length = 8 by rw [List.length_append, Jn.nml_len, Jn.nml_len])
  go_wp2_with (at_builtin; go_must (refine wpList_app rfl (.tmp 44) (.tmp 45) 35 _ _ rfl rfl rfl (appB_run (base := w.heap.size) _ HO7.out (show OwnBytes w7 w.heap.size v4 bo from HO4.out).bytes (by rw [HL7.out, HBL.out]; omega) hb7) ?_); rintro v8 w8 ⟨ho8, hg8, -⟩; have HO8 := Lib.hid ho8; have HB8 := Lib.hid (app_own HO7.out HB7.out hg8 hb7); clear ho8 hg8)
  clear HO7 HB7 hb7 HO4
  refine (numeral_any (n := g) (m := 4) (by omega) hg).mono ?_
  rintro e w9 ⟨u9, rfl, ho, hb⟩
  have HO9 := Lib.hid (ownB_base ho HB8.out.size)
  have HB9 := Lib.hid (HB8.out.up hb)
  replace HO8 := Lib.hid (HO8.out.below hb)
  clear ho hb HB8
  have hb9 := HB9.out.size
  have HL8 := Lib.hid (show (Jn.nml g 4 ++ Jn.nml cr 4 ++ bo).length = 124 by rw [List.length_append, HL7.out, HBL.out])
  go_wp2_with (at_builtin; go_must (refine wpList_app rfl (.tmp 46) (.tmp 48) 35 _ _ rfl rfl rfl (appB_run (base := w.heap.size) _ HO8.out HO9.out.bytes (by rw [HL8.out, Jn.nml_len]; omega) hb9) ?_); rintro v10 w10 ⟨ho10, hg10, -⟩; have HO10 := Lib.hid ho10; have HB10 := Lib.hid (app_own HO8.out HB9.out hg10 hb9); clear ho10 hg10)
  go_ret
  refine ⟨_, rfl, ?_, HB10.out⟩
  have h := HO10.out.bytes
  rw [← HCR.out, ← HBO.out, List.append_assoc, List.append_assoc] at h
  exact h
theorem SectorQ_any {g k : Nat} {q : Int} {bg en : Bool} {v : Value} {p : By} {w : World} (hv : IsBytes w v p) (hl : p.length ≤ 112) (hg : g < 18446744073709551616) (hq : IntKind.u64.wrap q = (k : Int)) (hk : k < 18446744073709551616) :
    Calls Try.prog 47 #[.int .u64 g, .int .i64 q, .bool bg, .bool en, v] w fun e w' => ∃ u, e = .returned u ∧ IsBytes w' u (Jn.sec g k (UInt8.ofNat ((if bg then 1 else 0) + (if en then 2 else 0))) p) ∧ Below w.heap.size w w' := by
  cases bg <;> cases en
  · exact SectorQ_0 hv hl hg hq hk
  · exact SectorQ_2 hv hl hg hq hk
  · exact SectorQ_1 hv hl hg hq hk
  · exact SectorQ_3 hv hl hg hq hk
theorem gm1_step {ss : List By} {n g ga gt : Nat} {s : By} (hg : (ss.take n).foldl Jn.gm1 0 = g) (hk : ss.take (n + 1) = ss.take n ++ [s]) (ha : Jn.gen s = ga) (ht : Jn.gnT s = gt) : (ss.take (n + 1)).foldl Jn.gm1 0 = max g (max ga gt) := by
  rw [hk, List.foldl_append]
  simp only [List.foldl_cons, List.foldl_nil, Jn.gm1, ha, ht, hg]
theorem max3r (g a t : Nat) : (if (if (g : Int) < (a : Int) then (a : Int) else (g : Int)) < (t : Int) then (t : Int) else if (g : Int) < (a : Int) then (a : Int) else (g : Int)) = ((max g (max a t) : Nat) : Int) := by
  by_cases h : (g : Int) < (a : Int)
  · rw [if_pos h]; split <;> omega
  · rw [if_neg h]; split <;> omega
set_option maxHeartbeats 4000000 in
set_option maxRecDepth 100000 in
theorem refgen_any {v : Value} {ss : List By} {w : World} (hv : IsBs w v ss) (hs : S128 ss) :
    Calls Try.prog 45 #[v] w fun e w' => e = .returned (.int .u64 (Jn.gnext ss : Nat)) ∧ Below w.heap.size w w' := by
  obtain ⟨A, c, _, rfl, _⟩ := id hv
  have HV := Lib.hid hv
  have HS := Lib.hid hs
  have hl4 := hs.1
  clear hv hs
  go_enter Try.func45, Try.ntmps45
  go_wp2_with (fail)
  go_loopw [3, 4] (fun s3 s4 wr => ∃ (k g : Nat), s3 = .int .u64 g ∧ s4 = .int .i64 k ∧ k ≤ ss.length ∧ g ≤ 4294967295 ∧ Hid ((ss.take k).foldl Jn.gm1 0 = g) ∧ Hid (IsBs wr (.slice A ss.length c) ss) ∧ Hid (Bl w wr)) (fun _ s4 _ => ss.length - (intOf s4).toNat)
  case atStart => exact ⟨0, 0, rfl, rfl, Nat.zero_le _, by omega, Lib.hid rfl, HV, Lib.hid (Bl.mk (Below.refl _ w))⟩
  case round =>
    clear HV
    obtain ⟨k, g, rfl, rfl, hk, hg, HG, HV, HW⟩ := hrel
    by_cases hlt : k < ss.length
    case neg =>
      have hd : decide ((k : Int) < (ss.length : Int)) = false := decide_eq_false (by omega)
      have hd2 : decide (k < ss.length) = false := decide_eq_false hlt
      have HGE := Lib.hid (show Jn.gnext ss = g + 1 from by unfold Jn.gnext Jn.gmax; rw [← HG.out, List.take_of_length_le (by omega)])
      go_wp2_with (fail)
      go_ret
      rw [HGE.out]
      exact ⟨rfl, HW.out.b⟩
    case pos =>
    have hd : decide ((k : Int) < (ss.length : Int)) = true := decide_eq_true (by omega)
    have hd2 : decide (k < ss.length) = true := decide_eq_true hlt
    obtain ⟨b1, o1, A1, c1, hA1, hbb1, hx, hsb⟩ := bs_at HV.out hlt
    subst hA1
    have h128 := HS.out.at hlt
    have HTK := Lib.hid (List.take_succ_eq_append_getElem hlt)
    obtain ⟨s, hsq⟩ : ∃ s, ss[k] = s := ⟨_, rfl⟩
    rw [hsq] at hx hsb h128 HTK
    obtain ⟨b2, o2, hA2⟩ : ∃ b o, A1 = some ⟨b, o, none⟩ := by
      obtain ⟨A', c', e, _, hr⟩ := hsb
      injection e with e
      subst e
      obtain ⟨b, off, e1, _⟩ := hr (by intro h; have h2 := congrArg List.length h; rw [List.length_map, h128] at h2; cases h2)
      exact ⟨b, off, e1⟩
    subst hA2
    have hcc := (bytes_len hsb).2
    rw [h128] at hx hcc hsb
    have HB4 := Lib.hid (bytes_sub hsb (i := 0) (j := 4) (n := 4) (c := c1) (by omega) (by omega) rfl (by omega))
    have HT4 := Lib.hid (bytes_sub hsb (i := 124) (j := 128) (n := 4) (c := c1 - 124) (by omega) (by omega) rfl (by omega))
    obtain ⟨ga, hga⟩ : ∃ x, Jn.gen s = x := ⟨_, rfl⟩
    obtain ⟨gt, hgt⟩ : ∃ x, Jn.gnT s = x := ⟨_, rfl⟩
    have HGA := Lib.hid hga
    have HGT := Lib.hid hgt
    have HN4 := Lib.hid (show Jn.num ((s.take 4).drop 0) = ga from by rw [List.drop_zero]; exact hga)
    have HM4 := Lib.hid (show Jn.num ((s.take 128).drop 124) = gt from by rw [List.take_of_length_le (by omega)]; exact hgt)
    have L4 := Lib.hid (show ((s.take 4).drop 0).length ≤ 4 from by rw [List.length_drop, List.length_take, h128]; decide)
    have LT4 := Lib.hid (show ((s.take 128).drop 124).length ≤ 4 from by rw [List.length_drop, List.length_take, h128]; decide)
    have hga2 : ga ≤ 4294967295 := by
      have h4 : ((s.take 4).drop 0).length = 4 := by rw [List.length_drop, List.length_take, h128]; rfl
      have := Jn.num_lt 4 _ h4
      rw [HN4.out] at this
      omega
    have hgt2 : gt ≤ 4294967295 := by
      have h4 : ((s.take 128).drop 124).length = 4 := by rw [List.length_drop, List.length_take, h128]; rfl
      have := Jn.num_lt 4 _ h4
      rw [HM4.out] at this
      omega
    clear hga hgt hsb
    have hc4 : (4 : Int) ≤ (c1 : Int) := by omega
    have hc5 : (128 : Int) ≤ (c1 : Int) := by omega
    have hw1 : wrap64 ((k : Int) + 1) = (k : Int) + 1 := IntWalk.wrap64_in _ (by omega)
    go_wp2_with (fail)
    go_quiet ((first | (go_at_call 63; first | with_reducible exact (number_q HB4.out L4.out HN4.out) | with_reducible exact (number_q HT4.out LT4.out HM4.out))))
    generalize hv : (if (if g < ga then (ga : Int) else (g : Int)) < (gt : Int) then (gt : Int) else if g < ga then (ga : Int) else (g : Int)) = vv
    have hvv : vv = ((max g (max ga gt) : Nat) : Int) := by
      rw [← hv]
      by_cases h : g < ga
      · rw [if_pos h]; split <;> omega
      · rw [if_neg h]; split <;> omega
    subst hvv
    clear hv
    have HV2 := Lib.hid (HV.out.upb (below_drewN (Below.refl _ wr) nq))
    have HW2 := Lib.hid (HW.out.upb (below_drewN (Below.refl _ wr) nq))
    have HG2 := Lib.hid (gm1_step HG.out HTK.out HGA.out HGT.out)
    have hm2 : max g (max ga gt) ≤ 4294967295 := by omega
    go_wp2_with (fail)
    rw [hw1]
    exact ⟨⟨k + 1, max g (max ga gt), rfl, rfl, hlt, hm2, HG2, HV2, HW2⟩, m_less hlt⟩
end Go.Proofs.Ytkcnanclpkongaa

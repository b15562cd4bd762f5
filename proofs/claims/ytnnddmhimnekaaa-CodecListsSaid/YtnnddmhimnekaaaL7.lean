/- The statement CodecLists, walked. -/
import Derived.Test.YtnnddmhimnekaaaL7a
import Derived.Test.YtnnddmhimnekaaaW23
namespace Go.Proofs.Ytnnddmhimnekaaa
open Go.RowKit
set_option linter.unusedVariables false
set_option linter.unusedSimpArgs false

set_option maxHeartbeats 4000000 in
set_option maxRecDepth 100000 in
theorem CodecLists_any (x : Value) (l : List Cd.Vl) (w : World) (hv : IsVs Any w x l) (hr : ∀ y ∈ l, Cd.raw y) (hl : l.length ≤ 9223372036854775807) : Calls Try.prog 8 #[x] w fun e w' => e = .returned (.bool true) ∧ Below w.heap.size w w' := by
  have HR := Lib.hid hr
  have HV := Lib.hid hv
  obtain ⟨A, c, es, rfl, _, _, _⟩ := hv
  clear hr
  go_enter Try.func8, Try.ntmps8
  go_wp2_with (fail)
  refine (sane_any _).mono ?_
  rintro e w1 ⟨rfl, b1⟩
  have B1 := Lib.hid b1
  clear b1
  go_wp2_with (fail)
  refine (few_any l _ Any _ HR.out hl (HV.out.under B1.out)).mono ?_
  rintro e w2 ⟨rfl, b2⟩
  have B2 := Lib.hid (B1.out.upb b2)
  clear b2 B1
  cases hfew : l.all Cd.fewB
  · go_wp2_with (fail)
    go_ret
    exact ⟨rfl, B2.out⟩
  by_cases hlen : 20 < l.length
  · have hd : decide (20 < (l.length : Int)) = true := by simp; omega
    go_wp2_with (fail)
    go_ret
    exact ⟨rfl, B2.out⟩
  have hd : decide (20 < (l.length : Int)) = false := by simp; omega
  have HF := Lib.hid (FewL.of HR.out hfew (by omega))
  clear hfew
  go_wp2_with (fail)
  clear hd
  go_loopw [3, 4, 5, 31] (fun wa ze sz i wr => ∃ j : Nat, j ≤ l.length ∧ i = .int .i64 j ∧ sz = .int .i64 ((Cd.encL (l.take j)).length : Nat) ∧ Hid (OwnBytes wr w.heap.size wa (Cd.encL (l.take j))) ∧ Hid (OwnZ wr w.heap.size ze j) ∧ Hid (Below w.heap.size w wr) ∧ Hid (∀ i (hi : i < l.length), i < j → Cd.check l[i] = 0)) (fun _ _ _ i _ => l.length - (intOf i).toNat)
  case atStart => exact ⟨0, by omega, rfl, by simp [Cd.encL], Lib.hid (by simpa [Cd.encL] using ownB_none w2 w.heap.size), ownZ_none _ _, B2, Lib.hid (fun i hi h => by omega)⟩
  case round =>
    obtain ⟨j, hj, rfl, rfl, HW, HZ, BR, HC⟩ := hrel
    clear B2
    by_cases hlt : j < l.length
    · obtain ⟨b, off, A', c', rfl, hb, _, e0, e1, e2, e3, HE⟩ := isVs_at (HV.out.under BR.out) hlt
      have HO := Lib.hid (HF.out.one l[j] (List.getElem_mem hlt))
      have HTk := Lib.hid (Cd.encL_take l j hlt)
      have HBad := Lib.hid (lV_bad hlt)
      have HCj := Lib.hid (show ∀ z, Cd.check l[j] = z → z = 0 → ∀ i (hi : i < l.length), i < j + 1 → Cd.check l[i] = 0 from fun z h1 h2 i hi h => by
        rcases Nat.lt_or_ge i j with h3 | h3
        · exact HC.out i hi h3
        · have : i = j := by omega
          subst this; rw [h1, h2])
      generalize hx : l[j] = v at *
      clear hx
      have F := Lib.hid (Four.new wr (.int .i64 v.kind) (.int .i64 v.num) (.string v.str) (.slice A' v.elems.length c'))
      have V := Lib.hid (HE.out.under (blw1 wr (.cells #[.int .i64 v.kind, .int .i64 v.num, .string v.str, .slice A' v.elems.length c'] 24)))
      have q0 := F.out.c0
      have q1 := F.out.c1
      have q2 := F.out.c2
      have q3 := F.out.c3
      go_wp2_with (fail)
      refine (Encode_any v _ Any _ HO.out.1 (by have := HO.out.2.1; omega) V.out (by have := HO.out.2.2; omega)).mono ?_
      rintro e w3 ⟨x3, rfl, bt3, b3⟩
      obtain ⟨A3, c3, rfl⟩ := bt3.slice
      have T3 := Lib.hid bt3
      have D3 := Lib.hid ((blw1 wr (.cells #[.int .i64 v.kind, .int .i64 v.num, .string v.str, .slice A' v.elems.length c'] 24)).up b3)
      replace F := Lib.hid (F.out.upb b3)
      replace V := Lib.hid (V.out.upb b3)
      clear bt3 b3 q0 q1 q2 q3 e0 e1 e2 e3 HE
      have q0 := F.out.c0
      have q1 := F.out.c1
      have q2 := F.out.c2
      have q3 := F.out.c3
      go_wp2_with (fail)
      refine (Size_any v _ Any _ HO.out.1 (by have := HO.out.2.1; omega) V.out (by have := HO.out.2.2; omega)).mono ?_
      rintro e w4 ⟨rfl, b4⟩
      have D4 := Lib.hid (D3.out.up b4)
      replace T3 := Lib.hid (T3.out.upb b4)
      have HER := Lib.hid (show Cd.check v = 0 → encR v = Cd.enc v from fun h => by simp [encR, h])
      clear b4 D3 F V q0 q1 q2 q3
      by_cases hck : Cd.check v = 0
      · replace HER := Lib.hid (HER.out hck)
        replace HCj := Lib.hid (HCj.out _ hck rfl)
        rw [HER.out] at T3 ⊢
        rw [hck]
        clear hck
        have HWl := Lib.hid (show (Cd.encL (l.take j)).length ≤ 844000 from by
          have h1 := HF.out.elen
          have h2 := congrArg List.length (show Cd.encL l = Cd.encL (l.take j) ++ Cd.encL (l.drop j) by rw [← Cd.encL_append, List.take_append_drop])
          rw [List.length_append] at h2; omega)
        obtain ⟨Aw, cw, rfl⟩ := ownB_slice HW.out
        obtain ⟨Az, cz, rfl⟩ := HZ.out.slice
        have HW4 := Lib.hid (ownB_under HW.out D4.out)
        have HZ4 := Lib.hid (ownZ_under HZ.out D4.out)
        have B4 := Lib.hid (BR.out.up D4.out)
        have HRN := fun ty => Lib.hid (run_catB ty HW4.out T3.out.bytes (by have := HWl.out; have := HO.out.2.2; omega) B4.out.size)
        have hsum : IntKind.i64.wrap (((Cd.encL (l.take j)).length : Int) + ((Cd.enc v).length : Int)) = ((Cd.encL (l.take j)).length : Int) + ((Cd.enc v).length : Int) := by
          have := HWl.out; have := HO.out.2.2; rw [IntKind.wrap_i64]; omega
        generalize Cd.encL (l.take j) = pw at *
        generalize Cd.enc v = ev at *
        go_wp2_with (at_builtin; go_must (refine wpList_cat rfl (.tmp 68) (.tmp 69) 27 _ rfl rfl rfl (HRN _).out ?_); intro v' X' hc; have HCt := Lib.hid hc; clear hc)
        obtain ⟨Av, cv, rfl⟩ := ownB_slice HCt.out.own
        have BX := Lib.hid (HCt.out.below HW4.out B4.out B4.out.size)
        have HZX := Lib.hid (HZ4.out.cat HCt.out HW4.out)
        have HWX := Lib.hid HCt.out.own
        clear HRN HW4 HZ4 B4 HCt D4 T3 HW HZ BR
        refine (Int_any _ _).mono ?_
        rintro e w5 ⟨rfl, b5⟩
        have HZ5 := Lib.hid (ownZ_under HZX.out b5)
        have HW5 := Lib.hid (ownB_under HWX.out b5)
        have B5 := Lib.hid (BX.out.up b5)
        clear b5 HZX HWX BX
        have hj20 := HF.out.len
        go_wp2_with (at_builtin; go_must (refine wpList_pushZ rfl (.tmp 71) (.tmp 73) rfl w.heap.size _ j rfl HZ5.out w5.heap.size rfl rfl (by omega) B5.out.size ?_); intro z' Z' hz hg; have HZ6 := Lib.hid hz; have HG6 := Lib.hid hg; clear hz hg)
        have hlt5 : ∀ g, Value.ownBlock (.slice Az j cz) = some g → w.heap.size ≤ g := fun g hg => (World.ownsRow.lt HZ5.out g hg).1
        have HW6 := Lib.hid (ownB_pushZ HW5.out HZ5.out HG6.out)
        have B6 := Lib.hid (B5.out.grown HG6.out B5.out.size hlt5)
        clear HZ5 HW5 B5 HG6 hlt5
        go_roundw
        case rel => exact ⟨j + 1, by omega, by go_num, by rw [HTk.out, List.length_append]; go_num, Lib.hid (by rw [HTk.out, ← List.length_append]; exact HW6.out), HZ6, B6, HCj⟩
        case measure => first | omega | (simp [intOf]; done) | (simp [intOf]; omega)
      · have HB2 := Lib.hid (HBad.out hck)
        have hne : (Cd.check v != 0) = true := by rw [bne_iff_ne]; exact hck
        have hne2 : (Cd.check v == 0) = false := by rw [beq_eq_false_iff_ne]; exact hck
        have B4 := Lib.hid (BR.out.up D4.out)
        generalize Cd.check v = ck at *
        generalize (encR v).length = le at *
        clear hck HW HZ BR D4
        go_wp2_with (fail)
        refine (List_any _ _ _ _).mono ?_
        rintro e w5 ⟨rfl, b5⟩
        have B5 := Lib.hid (B4.out.up b5)
        clear b5 B4 hne hne2
        go_wp2_with (fail)
        refine (Encode_any (lV l) _ Any _ HF.out.lfits HF.out.ldepth (IsV.of (HV.out.under B5.out)) (by have := HF.out.llen; omega)).mono ?_
        rintro e w6 ⟨x6, rfl, _, b6⟩
        have B6 := Lib.hid (B5.out.up b6)
        have hne : (Cd.check (lV l) != 0) = true := by rw [bne_iff_ne]; exact HB2.out
        clear b6 B5
        generalize Cd.check (lV l) = cl at *
        go_wp2_with (fail)
        go_ret
        exact ⟨rfl, B6.out⟩
    · obtain rfl : j = l.length := by omega
      rw [List.take_length] at HW ⊢
      have HK := Lib.hid (lV_ok (l := l) (fun i hi => HC.out i hi hi))
      clear HC hlt hj
      obtain ⟨Aw, cw, rfl⟩ := ownB_slice HW.out
      obtain ⟨Az, cz, rfl⟩ := HZ.out.slice
      go_wp2_with (fail)
      refine (List_any _ _ _ _).mono ?_
      rintro e w3 ⟨rfl, b3⟩
      replace HW := Lib.hid (ownB_under HW.out b3)
      replace HZ := Lib.hid (ownZ_under HZ.out b3)
      have B3 := Lib.hid (BR.out.up b3)
      clear b3 BR
      go_wp2_with (fail)
      refine (Encode_any (lV l) _ Any _ HF.out.lfits HF.out.ldepth (IsV.of (HV.out.under B3.out)) (by have := HF.out.llen; omega)).mono ?_
      rintro e w4 ⟨x4, rfl, bt4, b4⟩
      replace HW := Lib.hid (ownB_under HW.out b4)
      replace HZ := Lib.hid (ownZ_under HZ.out b4)
      have B4 := Lib.hid (B3.out.up b4)
      have T4 := Lib.hid bt4
      clear b4 B3 bt4
      by_cases hck : Cd.check (lV l) = 0
      · rw [hck]
        have HER := Lib.hid (show encR (lV l) = (3 :: Cd.digits l.length) ++ Cd.encL l by rw [encR, if_pos hck, lV_enc])
        rw [HER.out] at T4
        obtain ⟨A4, c4, rfl⟩ := T4.out.slice
        clear hck HK
        have HEL := Lib.hid HF.out.elen
        have HPS := Lib.hid (show 1 + (Cd.digits l.length).length + 2 * l.length = (3 :: Cd.digits l.length).length + 2 * l.length by rw [List.length_cons]; omega)
        have HP := Lib.hid (show 2 ≤ (3 :: Cd.digits l.length).length ∧ (3 :: Cd.digits l.length).length ≤ 11 by have := HF.out.dlen; rw [List.length_cons]; omega)
        generalize (3 :: Cd.digits l.length) = hd at *
        generalize Cd.encL l = tl at *
        clear HER
        go_wp2_with (fail)
        refine (List_any _ _ _ _).mono ?_
        rintro e w5 ⟨rfl, b5⟩
        replace HW := Lib.hid (ownB_under HW.out b5)
        replace HZ := Lib.hid (ownZ_under HZ.out b5)
        have B5 := Lib.hid (B4.out.up b5)
        replace T4 := Lib.hid (T4.out.upb b5)
        clear b5 B4
        go_wp2_with (fail)
        have HZF := Lib.hid (zeros_few HF.out.len)
        refine (Size_any (lV (List.replicate l.length (iV 0))) _ Any _ HZF.out.lfits HZF.out.ldepth (by have h := HZ.out.vals; have h2 := IsV.of (k := 3) (n := 0) (s := ByteArray.empty) h; exact h2) (by have := HZF.out.llen; omega)).mono ?_
        rintro e w6 ⟨rfl, b6⟩
        rw [zeros_size, zeros_ck, HPS.out]
        replace HW := Lib.hid (ownB_under HW.out b6)
        have B6 := Lib.hid (B5.out.up b6)
        replace T4 := Lib.hid (T4.out.upb b6)
        clear b6 B5 HZ HZF
        have hp1 := HP.out.1
        have hp2 := HP.out.2
        have hm := HEL.out
        have hk := HF.out.len
        obtain ⟨A7, hsl, hin⟩ := slice_from (pre := hd.length) T4.out.inB (by simp)
        rw [List.drop_left, show (hd ++ tl).length - hd.length = tl.length by simp] at hin
        rw [show (hd ++ tl).length - hd.length = tl.length by simp] at hsl
        have hsa : ∀ W : World, (Instr.sliceAt 27 (.slice A4 (hd.length + tl.length) c4) (some (.int .i64 (hd.length : Int))) none none).run Try.prog W = .ok (.slice A7 tl.length (c4 - hd.length)) W := fun W => by
          have h := (run_sliceAt_slice W 27 (.slice A4 (hd ++ tl).length c4) (some (.int .i64 (hd.length : Int))) none none (by kernel_rfl)).trans (hsl W)
          rwa [List.length_append] at h
        have hc1 := fun k => conv_str (show IsBytes (w6.drewN k) (.slice A7 tl.length (c4 - hd.length)) tl from InB.bytes hin (Nat.le_refl _))
        have hc2 := fun k => conv_str (show IsBytes (w6.drewN k) (.slice Aw tl.length cw) tl from OwnBytes.bytes HW.out)
        clear hsl hin
        go_wp2_with (fail)
        have s1 : IntKind.i64.wrap (2 * (l.length : Int)) = 2 * (l.length : Int) := by rw [IntKind.wrap_i64]; omega
        have s2 : IntKind.i64.wrap ((hd.length : Int) + 2 * (l.length : Int) - 2 * (l.length : Int)) = (hd.length : Int) := by rw [IntKind.wrap_i64]; omega
        have s3 : IntKind.i64.wrap (hd.length : Int) = (hd.length : Int) := by rw [IntKind.wrap_i64]; omega
        have s4 : IntKind.i64.wrap ((hd.length : Int) + (tl.length : Int)) = (hd.length : Int) + (tl.length : Int) := by rw [IntKind.wrap_i64]; omega
        have s5 : decide ((2 : Int) ≤ (hd.length : Int)) = true := by simp; omega
        have s6 : decide (2 ≤ hd.length) = true := by simp; omega
        clear hp1 hp2 hm hk
        go_quiet (fail)
        go_wp2_with (fail)
        go_ret
        exact ⟨rfl, below_drewN B6.out _⟩
      · have h2 : Cd.check (lV l) = 2 := by have := HK.out; omega
        rw [h2]
        clear hck h2
        go_wp2_with (fail)
        go_ret
        exact ⟨rfl, B4.out⟩

end Go.Proofs.Ytnnddmhimnekaaa

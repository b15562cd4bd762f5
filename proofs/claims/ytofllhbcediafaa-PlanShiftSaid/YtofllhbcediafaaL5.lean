/- The statement PlanShift, walked. -/
import Derived.Test.YtofllhbcediafaaW21
import Derived.Deep.RegionHeld3
namespace Go.Proofs.Ytofllhbcediafaa
open Go.RowKit
set_option linter.unusedVariables false
set_option linter.unusedSimpArgs false

theorem word_at {x : List Pl.Life} {d : Int} (h : Pl.wordOk x d = true) (j : Nat) (hj : j < x.length) : 0 ≤ x[j].1 ∧ x[j].1 < x[j].2 ∧ x[j].2 ≤ 1099511627776 := by
  cases hs : Pl.step (Pl.lastL (Pl.born x) (x.take j)) x[j]
  · have := Pl.wordOk_no x d j hj hs
    rw [h] at this; cases this
  · simp only [Pl.step, Bool.and_eq_true, decide_eq_true_eq] at hs
    omega

theorem boxed_next (W : World) (o : Obj) (t : TypeId) (v : Value) : Boxed ((W.alloc o).alloc (.cells #[v] t)) (W.heap.size + 1) t v := by
  have := Boxed.new (W.alloc o) t v
  rwa [World.size_alloc] at this

/-- what a time later changes -/
theorem shift_facts {l : List (List Pl.Life)} {ds : List Int} (m : Nat) (he : Pl.err l ds = 0) (he2 : Pl.err (Pl.shW m l) (Pl.shD m ds) = 0) (hf : ∀ x ∈ l, Pl.fits m x) :
    okL (Pl.shW m l) (Pl.shD m ds) = okL l ds ∧ (okL l ds = true → wdE l ds (Pl.shown ds) = 0 ∧ wdE (Pl.shW m l) (Pl.shD m ds) (Pl.shown (Pl.shD m ds)) = 0 ∧ wdN l ds (Pl.shown ds) = wdN (Pl.shW m l) (Pl.shD m ds) (Pl.shown (Pl.shD m ds))) := by
  have hR := right_of he
  have hR2 := right_of he2
  have hlen := hR.len
  have e : okL (Pl.shW m l) (Pl.shD m ds) = okL l ds := by
    rw [Bool.eq_iff_iff, ok_iff hR he, ok_iff hR2 he2]
    constructor
    · intro h i hi
      have h1 := h i (by rw [Pl.shW_len]; exact hi)
      have e1 : (Pl.shW m l)[i]'(by rw [Pl.shW_len]; exact hi) = Pl.shL m l[i] := by simp [Pl.shW]
      rw [e1, Pl.born_shL m _ (hR.some_ i hi), (Pl.shown_shift m ds i (by omega)).1] at h1
      omega
    · intro h i hi
      have hi' : i < l.length := by rw [Pl.shW_len] at hi; exact hi
      have h1 := h i hi'
      have e1 : (Pl.shW m l)[i]'hi = Pl.shL m l[i] := by simp [Pl.shW]
      rw [e1, Pl.born_shL m _ (hR.some_ i hi'), (Pl.shown_shift m ds i (by omega)).1]
      omega
  refine ⟨e, fun hok => ?_⟩
  have hok2 := e.trans hok
  have hi1 : Pl.inTime l ds (Pl.shown ds) = true := by simp [okL, he] at hok; exact hok
  have hi2 : Pl.inTime (Pl.shW m l) (Pl.shD m ds) (Pl.shown (Pl.shD m ds)) = true := by simp [okL, he2] at hok2; exact hok2
  obtain ⟨b1, b2⟩ := wd_right he hi1
  obtain ⟨b3, b4⟩ := wd_right he2 hi2
  refine ⟨b1, b3, ?_⟩
  rw [b2, b4, Pl.lostF_shift m (by omega) l (Pl.shown ds) (Pl.shown (Pl.shD m ds)) (by rw [Pl.shown_len]; exact hlen) (by rw [Pl.shown_len, Pl.shD_len]; exact hlen) (fun i hi => (Pl.shown_shift m ds i (by omega)).1) hf]

set_option maxHeartbeats 4000000 in
set_option maxRecDepth 100000 in
theorem PlanShift_any (v u : Value) (l : List (List Pl.Life)) (ds : List Int) (m : Nat) (w : World) (hv : IsWords w v l) (hu : IsInts w u ds) (hl : l.length ≤ 9223372036854775807) (hl2 : ds.length ≤ 9223372036854775807) (hm : m ≤ 4294967295) :
    Calls Try.prog 8 #[v, u, .int .u32 (m : Int)] w fun e w' => e = .returned (.bool true) ∧ Below w.heap.size w w' := by
  have HV := Lib.hid hv
  have HU := Lib.hid hu
  obtain ⟨A, cap, vs, rfl, hlen, hr, hvs⟩ := hv
  obtain ⟨A2, cap2, rfl, hr2⟩ := hu
  clear hr hvs hlen hr2
  go_enter Try.func8, Try.ntmps8
  go_wp2_with (fail)
  refine (sane_any _).mono ?_
  rintro e w1 ⟨rfl, hb1⟩
  have B1 := Lib.hid hb1
  clear hb1
  go_wp2_with (fail)
  refine (right_any _ _ l ds _ (HV.out.below B1.out) (HU.out.below B1.out) hl hl2).mono ?_
  rintro e w2 ⟨rfl, q, hq⟩
  have B2 : Hid (Below w.heap.size w w2) := by rw [hq]; exact below_drewN B1.out q
  clear hq B1
  cases hrb : rightB l ds
  · go_wp2_with (fail)
    go_ret
    exact ⟨rfl, B2.out⟩
  obtain ⟨h100, he⟩ := rightB_facts hrb
  have HE := Lib.hid he
  have HRt := Lib.hid (right_of he)
  have hd1 : ds.length ≤ l.length := by have := HRt.out.len; omega
  have hd2 : l.length ≤ ds.length := by have := HRt.out.len; omega
  have HV2 := Lib.hid (HV.out.below B2.out)
  have HU2 := Lib.hid (HU.out.below B2.out)
  clear hrb he
  go_wp2_with (fail)
  go_loopw [7, 8, 35] (fun mv du c wr => ∃ (i : Nat) (vs : List Value), i ≤ l.length ∧ c = .int .i64 i ∧ Hid (Bld w2 wr mv du vs (Pl.shW m (l.take i)) (Pl.shD m (ds.take i))) ∧ Hid (∀ x ∈ l.take i, Pl.fits m x)) (fun _ _ c _ => l.length - (intOf c).toNat)
  case atStart => exact ⟨0, [], Nat.zero_le _, rfl, Bld.start w2, fun x hx => by simp at hx⟩
  case round =>
    obtain ⟨i, vs', hi, rfl, HB, HFi⟩ := hrel
    obtain ⟨wo, rfl⟩ : ∃ wo : World, wo = wr := ⟨_, rfl⟩
    by_cases hlt : i < l.length
    · obtain ⟨b1, off1, A8, c8, rfl, hb1, hc1, HLv⟩ := isWords_at (HV2.out.below HB.out.be) hlt
      obtain ⟨b2, off2, rfl, hb2, hc2⟩ := isInts_at HU2.out (show i < ds.length by omega)
      have hc2o := (HB.out.be.cell (p := ⟨b2, off2 + i, none⟩) hb2).trans hc2
      have hdu := HRt.out.due i (by omega)
      have h16 := HRt.out.most i hlt
      have HW := Lib.hid (fun j hj => word_at (HRt.out.word i hlt (by omega)) j hj)
      have HSW := Lib.hid (Pl.shW_take m l i hlt)
      have HSD := Lib.hid (Pl.shD_take m ds i (by omega))
      have hvl : vs'.length ≤ 1000000 := by rw [HB.out.le, Pl.shW_len]; simp; omega
      have hdl : (Pl.shD m (ds.take i)).length ≤ 1000000 := by rw [Pl.shD_len]; simp; omega
      have HFn := Lib.hid (show Pl.fits m l[i] → ∀ x ∈ l.take (i + 1), Pl.fits m x from fun hx x hm => by
        rw [List.take_succ_eq_append_getElem hlt] at hm
        rcases List.mem_append.1 hm with h | h
        · exact HFi.out x h
        · simp at h; subst h; exact hx)
      generalize l[i] = x at *
      generalize Pl.at_ ds i = d at *
      go_wp2_with (fail)
      go_loopw [11, 42] (fun own c wr => ∃ j : Nat, j ≤ x.length ∧ c = .int .i64 j ∧ Hid (OwnLives wr wo.heap.size own (Pl.shL m (x.take j))) ∧ Hid (Pl.fits m (x.take j)) ∧ Hid (Below wo.heap.size wo wr)) (fun _ c _ => x.length - (intOf c).toNat)
      case atStart => exact ⟨0, Nat.zero_le _, rfl, ownL_none wo _, fun y hy => by simp at hy, Below.refl _ _⟩
      case round =>
        obtain ⟨j, hj, rfl, HO, HFj, BI⟩ := hrel
        by_cases hlj : j < x.length
        · obtain ⟨b9, off9, rfl, _, hx1, hx2⟩ := isLives_at (HLv.out.below BI.out) hlj
          obtain ⟨g1, g2, g3⟩ := HW.out j hlj
          have HST := Lib.hid (Pl.shL_take m x j hlj)
          have hol : (Pl.shL m (x.take j)).length ≤ 1000000 := by rw [Pl.shL_len]; simp; omega
          have HFs := Lib.hid (show Pl.fits1 m x[j] → Pl.fits m (x.take (j + 1)) from fun hx y hm => by
            rw [List.take_succ_eq_append_getElem hlj] at hm
            rcases List.mem_append.1 hm with h | h
            · exact HFj.out y h
            · simp at h; subst h; exact hx)
          have HBa := fun o => Lib.hid (BI.out.up (al1 _ o))
          by_cases g4 : x[j].2 < 1099511627776
          · by_cases g5 : x[j].2 + (m : Int) < 1099511627776
            · have HS1 := Lib.hid (show Pl.sh1 m x[j] = (x[j].1 + m, x[j].2 + m) by simp [Pl.sh1, g4])
              have HF1 := Lib.hid (HFs.out (fun _ => g5))
              rw [HS1.out] at HST
              clear HFs HS1
              generalize x[j].1 = bo at *
              generalize x[j].2 = go at *
              go_wp2_with (at_builtin; go_must (refine wpList_pushL rfl (.tmp 64) (.tmp 66) rfl wo.heap.size _ _ rfl (ownL_alloc HO.out _) (bo + m) (go + m) (wr.heap.size + 1) (by simp) rfl hol (HBa _).out.size ?_); intro v1 w3 hown1 hg1 hat1; have HO1 := Lib.hid hown1; have HG1 := Lib.hid hg1; clear hown1 hg1 hat1)
              go_roundw
              case rel => exact ⟨j + 1, by omega, by go_num, by rw [HST.out]; exact HO1.out, HF1, (HBa _).out.grown HG1.out (HBa _).out.size (fun g hg => (ownL_at HO.out g hg).1)⟩
              case measure => first | omega | (simp [intOf]; done) | (simp [intOf]; omega)
            · clear HFs HST
              generalize x[j].1 = bo at *
              generalize x[j].2 = go at *
              go_wp2_with (fail)
              go_ret
              exact ⟨rfl, (B2.out.up HB.out.be).up (HBa _).out⟩
          · have HS1 := Lib.hid (show Pl.sh1 m x[j] = (x[j].1 + m, x[j].2) by simp [Pl.sh1, g4])
            have HF1 := Lib.hid (HFs.out (fun h => absurd h g4))
            rw [HS1.out] at HST
            clear HFs HS1
            generalize x[j].1 = bo at *
            generalize x[j].2 = go at *
            go_wp2_with (at_builtin; go_must (refine wpList_pushL rfl (.tmp 64) (.tmp 66) rfl wo.heap.size _ _ rfl (ownL_alloc HO.out _) (bo + m) go (wr.heap.size + 1) (by simp) rfl hol (HBa _).out.size ?_); intro v1 w3 hown1 hg1 hat1; have HO1 := Lib.hid hown1; have HG1 := Lib.hid hg1; clear hown1 hg1 hat1)
            go_roundw
            case rel => exact ⟨j + 1, by omega, by go_num, by rw [HST.out]; exact HO1.out, HF1, (HBa _).out.grown HG1.out (HBa _).out.size (fun g hg => (ownL_at HO.out g hg).1)⟩
            case measure => first | omega | (simp [intOf]; done) | (simp [intOf]; omega)
        · have HJ : Pl.shL m (x.take j) = Pl.shL m x := by rw [List.take_of_length_le (by omega)]
          have HFx := Lib.hid (HFn.out (by have := HFj.out; rwa [List.take_of_length_le (by omega)] at this))
          rw [HJ] at HO
          have HOB := Lib.hid (show OwnLives wr w2.heap.size u11 (Pl.shL m x) from owns_base HO.out HB.out.be.size)
          have HBr := Lib.hid (HB.out.below BI.out)
          clear HJ HO HFj HFn hc1 hc2o
          have hc3 := (HBr.out.be.cell (p := ⟨b2, off2 + i, none⟩) hb2).trans hc2
          have hcw := fun X (h : Below w2.heap.size w2 X) => (h.cell (p := ⟨b2, off2 + i, none⟩) hb2).trans hc2
          have HCW := Lib.hid hcw
          clear hcw hc2
          have hi0 : (0 : Int) ≤ (i : Int) := by omega
          have hi1 : (i : Int) < (ds.length : Int) := by omega
          have hwm : IntKind.i64.wrap (m : Int) = (m : Int) := IntWalk.i64_in _ (by omega)
          have hwr : IntKind.i64.wrap (d + (m : Int)) = d + (m : Int) := IntWalk.i64_in _ (by omega)
          obtain ⟨Ao, co, hoe⟩ := own_slice HOB.out
          subst hoe
          generalize (Pl.shL m x).length = nx at *
          go_wp2_with (fail)
          go_region_held3 (fun X => X.cell? ⟨b2, off2 + i, none⟩ = some (.int .i64 d)) (first | exact HCW.out _ hBn.out.be | go_keep)
            (first
              | (refine step_pushW (by rfl) (.tmp 69) (.tmp 71) (by rfl) u7 u8 vs' _ _ (by first | exact (HBr.out.alloc _).drewN 1 | exact ((HBr.out.alloc _).alloc _).drewN 1) (.slice Ao nx co) (Pl.shL m x)
                   (by first | exact ownL_drewN (ownL_alloc HOB.out _) 1 | exact ownL_drewN (ownL_alloc (ownL_alloc HOB.out _) _) 1) _ (by rfl) (by rfl)
                   (by first | exact boxed_drewN (Boxed.new wr 37 _) 1 | exact boxed_drewN ((Boxed.new wr 37 _).alloc _) 1 | exact boxed_drewN (boxed_next wr _ 37 _) 1) hvl ?_
                 intro v1 X1 hB1 hbx1
                 have hBn := Lib.hid hB1
                 have HX1 := Lib.hid hbx1
                 clear hB1 hbx1)
              | (refine step_pushD (by rfl) (.tmp 73) (.tmp 81) (by rfl) v1 u8 _ _ _ (by first | exact hBn.out | exact hBn.out.alloc _) (d + m) _ (by rfl) (by rfl)
                   (by first | exact Boxed.new X1 3 _ | exact HX1.out _ _ (boxed_drewN ((Boxed.new wr 3 _).alloc _) 1) | exact HX1.out _ _ (boxed_drewN (boxed_next wr _ 3 _) 1)) hdl ?_
                 intro v2 X2 hB2
                 have hBn := Lib.hid hB2
                 clear hB2))
          all_goals
            clear hwr hwm
            go_wp2_with (fail)
            go_roundw
            case rel => exact ⟨i + 1, _, by omega, by go_num, by rw [HSW.out, HSD.out]; exact hBn.out, HFx⟩
            case measure => first | omega | (simp [intOf]; done) | (simp [intOf]; omega)
    · have e1 : l.take i = l := List.take_of_length_le (by omega)
      have e2 : ds.take i = ds := List.take_of_length_le (by omega)
      rw [e1, e2] at HB
      rw [e1] at HFi
      have HMW := Lib.hid HB.out.words
      have HMD := Lib.hid HB.out.du.ints
      have BO := Lib.hid (B2.out.up HB.out.be)
      clear HB e1 e2 HV2 HU2
      obtain ⟨A7, c7, _, h7, _, _, _⟩ := HMW.out
      obtain ⟨A8, c8, h8, _⟩ := HMD.out
      subst h7 h8
      rw [Pl.shW_len] at HMW ⊢
      rw [Pl.shD_len] at HMD ⊢
      have hsl : (Pl.shW m l).length ≤ 9223372036854775807 := by rw [Pl.shW_len]; exact hl
      have hsd : (Pl.shD m ds).length ≤ 9223372036854775807 := by rw [Pl.shD_len]; exact hl2
      have HSD := Lib.hid (Pl.shD_len m ds)
      go_wp2_with (fail)
      refine (Check_any _ _ (Pl.shW m l) (Pl.shD m ds) _ HMW.out HMD.out hsl hsd).mono ?_
      rintro e w3 ⟨rfl, X3⟩
      have B3 := Lib.hid (BO.out.up X3)
      replace HMW := Lib.hid (HMW.out.below X3)
      replace HMD := Lib.hid (HMD.out.below X3)
      clear X3 BO
      by_cases he2 : Pl.err (Pl.shW m l) (Pl.shD m ds) = 0
      rotate_left
      · have hne : (Pl.err (Pl.shW m l) (Pl.shD m ds) != 0) = true := by simp [he2]
        clear he2
        go_wp2_with (fail)
        go_ret
        exact ⟨rfl, B3.out⟩
      obtain ⟨F1, F2⟩ := shift_facts m HE.out he2 HFi.out
      have HE2 := Lib.hid he2
      have G1 := Lib.hid F1
      have G2 := Lib.hid F2
      rw [HE2.out]
      clear he2 F1 F2 HFi
      go_wp2_with (fail)
      refine (Latest_any _ _ l ds _ (HV.out.below B3.out) (HU.out.below B3.out) hl hl2).mono ?_
      rintro e w4 hP
      cases hok : okL l ds
      · obtain ⟨A9, c9, A10, c10, rfl, H9, H10, X4⟩ := hP.gets
        have B4 := Lib.hid (B3.out.up X4.out)
        replace HMW := Lib.hid (HMW.out.below X4.out)
        replace HMD := Lib.hid (HMD.out.below X4.out)
        have e1 : laS l ds = [] := by simp [laS, hok]
        have e2 : laY l ds = [] := by simp [laY, hok]
        rw [e2] at H10
        rw [HE.out, hok, e1, e2]
        clear hP X4 B3 e1 e2 H9
        have hok2 := G1.out.trans hok
        simp only [List.length_nil] at H10 ⊢
        clear hok
        go_wp2_with (fail)
        refine (Latest_any _ _ (Pl.shW m l) (Pl.shD m ds) _ HMW.out HMD.out hsl hsd).mono ?_
        rintro e w5 hP
        obtain ⟨A11, c11, A12, c12, rfl, H11, H12, X5⟩ := hP.gets
        have B5 := Lib.hid (B4.out.up X5.out)
        have e1 : laS (Pl.shW m l) (Pl.shD m ds) = [] := by simp [laS, hok2]
        have e2 : laY (Pl.shW m l) (Pl.shD m ds) = [] := by simp [laY, hok2]
        rw [e2] at H12
        rw [HE2.out, hok2, e1, e2]
        replace H10 := Lib.hid (H10.out.below X5.out)
        clear hP X5 B4 e1 e2 H11 hok2
        simp only [List.length_nil] at H12 ⊢
        go_wp2_with (fail)
        refine (sameInts_any _ _ [] [] _ H10.out H12.out (by simp) (by simp)).mono ?_
        rintro e w6 ⟨rfl, q6, hq6⟩
        have B6 : Hid (Below w.heap.size w w6) := by rw [hq6]; exact below_drewN B5.out q6
        clear hq6
        rw [show decide (([] : List Int) = []) = true by rfl]
        go_wp2_with (fail)
        go_ret
        exact ⟨rfl, B6.out⟩
      · obtain ⟨A9, c9, A10, c10, rfl, H9, H10, X4⟩ := hP.yes' (n := l.length) HE.out hok HRt.out.len
        have B4 := Lib.hid (B3.out.up X4.out)
        replace HMW := Lib.hid (HMW.out.below X4.out)
        replace HMD := Lib.hid (HMD.out.below X4.out)
        clear hP X4 B3
        have hok2 := Lib.hid (G1.out.trans hok)
        obtain ⟨F3, F4, F5⟩ := G2.out hok
        have G3 := Lib.hid F3
        have G4 := Lib.hid F4
        have G5 := Lib.hid F5
        clear F3 F4 F5 hok G2
        go_wp2_with (fail)
        refine (Latest_any _ _ (Pl.shW m l) (Pl.shD m ds) _ HMW.out HMD.out hsl hsd).mono ?_
        rintro e w5 hP
        obtain ⟨A11, c11, A12, c12, rfl, H11, H12, X5⟩ := hP.yes' (n := l.length) HE2.out hok2.out (by rw [Pl.shD_len]; exact HRt.out.len)
        rw [Pl.whys_shift] at H12
        have B5 := Lib.hid (B4.out.up X5.out)
        replace H9 := Lib.hid (H9.out.below X5.out)
        replace H10 := Lib.hid (H10.out.below X5.out)
        replace HMW := Lib.hid (HMW.out.below X5.out)
        replace HMD := Lib.hid (HMD.out.below X5.out)
        clear hP X5 B4
        have hwl : (Pl.whys ds).length ≤ 9223372036854775807 := by rw [Pl.whys_len]; omega
        go_wp2_with (fail)
        refine (sameInts_any _ _ (Pl.whys ds) (Pl.whys ds) _ H10.out H12.out hwl hwl).mono ?_
        rintro e w6 ⟨rfl, q6, hq6⟩
        have X6 : Hid (Below w5.heap.size w5 w6) := by rw [hq6]; exact below_drewN (Below.refl _ _) q6
        have B6 := Lib.hid (B5.out.up X6.out)
        replace H9 := Lib.hid (H9.out.below X6.out)
        replace H11 := Lib.hid (H11.out.below X6.out)
        replace HMW := Lib.hid (HMW.out.below X6.out)
        replace HMD := Lib.hid (HMD.out.below X6.out)
        clear hq6 X6 B5 H10 H12
        rw [show decide (Pl.whys ds = Pl.whys ds) = true by simp]
        have N1 := Lib.hid (Pl.shown_len ds)
        have N2 := Lib.hid ((Pl.shown_len (Pl.shD m ds)).trans (Pl.shD_len m ds))
        have HSH := Lib.hid (fun k hk => (Pl.shown_shift m ds k hk).1)
        have HBD := Lib.hid (fun k (hk : k < ds.length) => Pl.shown_le ds k k (Nat.le_refl _) hk)
        have HBL := Lib.hid (fun k (hk : k < ds.length) => Pl.le_shown ds k hk 0 (fun j _ hj => (HRt.out.due j hj).1))
        go_wp2_with (fail)
        go_loopw [132] (fun c wr => ∃ k q : Nat, k ≤ l.length ∧ c = .int .i64 k ∧ wr = w6.drewN q) (fun c _ => l.length - (intOf c).toNat)
        case atStart => exact ⟨0, 0, Nat.zero_le _, rfl, rfl⟩
        case round =>
          obtain ⟨k, q, hk, rfl, rfl⟩ := hrel
          by_cases hkl : k < l.length
          · obtain ⟨b1, off1, rfl, _, hc1⟩ := isInts_at H9.out (show k < (Pl.shown ds).length by rw [N1.out]; omega)
            obtain ⟨b2, off2, rfl, _, hc2⟩ := isInts_at H11.out (show k < (Pl.shown (Pl.shD m ds)).length by rw [N2.out]; omega)
            rw [HSH.out k (by omega)] at hc2
            have hd3 := HBD.out k (by omega)
            have hd4 := HBL.out k (by omega)
            have hd5 := (HRt.out.due k (by omega)).2
            generalize Pl.at_ ds k = dk at *
            generalize Pl.at_ (Pl.shown ds) k = t at *
            have hwm : IntKind.i64.wrap (m : Int) = (m : Int) := IntWalk.i64_in _ (by omega)
            have hwr : IntKind.i64.wrap (t + (m : Int)) = t + (m : Int) := IntWalk.i64_in _ (by omega)
            have d1 : ((t + (m : Int)) != (t + (m : Int))) = false := by simp
            go_wp2_with (fail)
            go_quiet (fail)
            clear hwm hwr
            go_wp2_with (fail)
            go_roundw
            case rel => exact ⟨k + 1, _, by omega, by go_num, rfl⟩
            case measure => first | omega | (simp [intOf]; done) | (simp [intOf]; omega)
          · have B7 := Lib.hid (below_drewN B6.out q)
            obtain ⟨w7, hw7⟩ : ∃ w7, w6.drewN q = w7 := ⟨_, rfl⟩
            have X7 : Hid (Below w6.heap.size w6 w7) := by rw [← hw7]; exact below_drewN (Below.refl _ _) q
            rw [hw7] at B7 ⊢
            clear hw7
            replace H9 := Lib.hid (H9.out.below X7.out)
            replace H11 := Lib.hid (H11.out.below X7.out)
            replace HMW := Lib.hid (HMW.out.below X7.out)
            replace HMD := Lib.hid (HMD.out.below X7.out)
            clear X7 B6
            go_wp2_with (fail)
            refine (Withdrawn_any _ _ _ l ds (Pl.shown ds) _ (HV.out.below B7.out) (HU.out.below B7.out) H9.out hl hl2 (by rw [N1.out]; omega)).mono ?_
            rintro e w8 ⟨rfl, X8⟩
            have B8 := Lib.hid (B7.out.up X8)
            replace H11 := Lib.hid (H11.out.below X8)
            replace HMW := Lib.hid (HMW.out.below X8)
            replace HMD := Lib.hid (HMD.out.below X8)
            clear X8 B7
            rw [G3.out, G5.out]
            go_wp2_with (fail)
            refine (Withdrawn_any _ _ _ (Pl.shW m l) (Pl.shD m ds) (Pl.shown (Pl.shD m ds)) _ HMW.out HMD.out H11.out hsl hsd (by rw [N2.out]; omega)).mono ?_
            rintro e w9 ⟨rfl, X9⟩
            have B9 := Lib.hid (B8.out.up X9)
            clear X9 B8
            rw [G4.out]
            go_wp2_with (fail)
            go_ret
            exact ⟨rfl, B9.out⟩

end Go.Proofs.Ytofllhbcediafaa

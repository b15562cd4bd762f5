/- The statement PlanFewest, walked. -/
import Derived.Test.YtofllhbcediafaaL2
import Derived.Test.YtofllhbcediafaaPlain7
import Derived.Deep.RegionHeld3
namespace Go.Proofs.Ytofllhbcediafaa
open Go.RowKit
set_option linter.unusedVariables false
set_option linter.unusedSimpArgs false

theorem goneIx_ofN (t : Int) (x : List Pl.Life) (k : Nat) (h : k ≤ x.length) : (goneIx t x k).length = ofN t (x.take k) := by
  induction k with
  | zero => rfl
  | succ k ih =>
    rw [goneIx_step t x k (by omega), ofN_step t x k (by omega), List.length_append, ih (by omega)]
    split <;> simp
theorem goneIx_all (t : Int) (x : List Pl.Life) : (goneIx t x x.length).length = ofN t x := by
  rw [goneIx_ofN t x _ (Nat.le_refl _), List.take_of_length_le (Nat.le_refl _)]
theorem goneIx_lt (t : Int) (x : List Pl.Life) (k : Nat) : ∀ y ∈ goneIx t x k, y < (k : Int) := by
  intro y hy
  unfold goneIx at hy
  simp only [List.mem_map, List.mem_filter, List.mem_range] at hy
  obtain ⟨i, ⟨h1, _⟩, rfl⟩ := hy
  omega
theorem at_append {a b : List Int} (h : 0 < a.length) : Pl.at_ (a ++ b) 0 = Pl.at_ a 0 := by
  cases a with
  | nil => simp at h
  | cons x r => rfl
theorem goneIx_first {t t' : Int} (ht : t ≤ t') (x : List Pl.Life) (k : Nat) (h : k ≤ x.length) (hp : 0 < (goneIx t' x k).length) : 0 < (goneIx t x k).length ∧ Pl.at_ (goneIx t x k) 0 ≤ Pl.at_ (goneIx t' x k) 0 := by
  induction k with
  | zero => simp [goneIx] at hp
  | succ k ih =>
    rw [goneIx_step t' x k (by omega)] at hp ⊢
    rw [goneIx_step t x k (by omega)]
    by_cases h0 : 0 < (goneIx t' x k).length
    · obtain ⟨h1, h2⟩ := ih (by omega) h0
      refine ⟨by rw [List.length_append]; omega, ?_⟩
      rw [at_append h1, at_append h0]; exact h2
    · have e : goneIx t' x k = [] := List.eq_nil_of_length_eq_zero (by omega)
      rw [e] at hp ⊢
      by_cases hg : Pl.gone t' x[k] = true
      · rw [if_pos hg, if_pos (Pl.gone_mono ht _ hg)]
        refine ⟨by simp, ?_⟩
        show _ ≤ (k : Int)
        by_cases h1 : 0 < (goneIx t x k).length
        · rw [at_append h1, Pl.at_eq _ _ h1]
          have := goneIx_lt t x k _ (List.getElem_mem h1)
          omega
        · have e2 : goneIx t x k = [] := List.eq_nil_of_length_eq_zero (by omega)
          rw [e2]; exact Int.le_refl _
      · rw [if_neg hg] at hp; simp at hp

theorem ofN_mono {t t' : Int} (h : t ≤ t') (x : List Pl.Life) : ofN t' x ≤ ofN t x := by
  have := Pl.lostW_mono h 0 x
  rwa [lostW_ofN, lostW_ofN] at this

theorem withdrawn_get (v : Value) (x : List Pl.Life) (t : Int) (w : World) (hv : IsLives w v x) (hl : x.length ≤ 1000) :
    Calls Try.prog 21 #[v, .int .i64 t] w fun e w' => ∃ A c, e = .returned (.slice A (ofN t x) c) ∧ Hid (IsInts w' (.slice A (ofN t x) c) (goneIx t x x.length)) ∧ Hid (Below w.heap.size w w') :=
  (withdrawn_any v x t w hv hl).mono fun e w' ⟨r, he, hr, hb⟩ => by
    have hr' := hr
    obtain ⟨A, c, rfl, _⟩ := hr'
    rw [goneIx_all] at he hr
    exact ⟨A, c, he, hr, hb⟩

theorem wd_right {l : List (List Pl.Life)} {ds s : List Int} (he : Pl.err l ds = 0) (hi : Pl.inTime l ds s = true) : wdE l ds s = 0 ∧ wdN l ds s = ((Pl.lostF 0 l s).length : Int) := by
  have h1 : wdE l ds s = 0 := by simp [wdE, he, hi]
  exact ⟨h1, by simp [wdN, h1, Pl.withdrawn]⟩

theorem isWords_at {w : World} {A : Option Addr} {n c : Nat} {l : List (List Pl.Life)} (h : IsWords w (.slice A n c) l) {k : Nat} (hk : k < l.length) :
    ∃ b off A' c', A = some ⟨b, off, none⟩ ∧ b < w.heap.size ∧ w.cell? ⟨b, off + k, none⟩ = some (.slice A' l[k].length c') ∧ Hid (IsLives w (.slice A' l[k].length c') l[k]) := by
  obtain ⟨A', c', vs, e, hlen, hr, hvs⟩ := h
  injection e with e1 e2 e3
  subst e1
  obtain ⟨b, off, A4, c4, rfl, hb, hc, hr4⟩ := words_at hlen hr hvs hk
  exact ⟨b, off, A4, c4, rfl, hb, hc, ⟨A4, c4, rfl, hr4⟩⟩

set_option maxHeartbeats 4000000 in
set_option maxRecDepth 100000 in
theorem PlanFewest_any (v u x : Value) (l : List (List Pl.Life)) (ds s : List Int) (w : World) (hv : IsWords w v l) (hu : IsInts w u ds) (hx : IsInts w x s) (hl : l.length ≤ 9223372036854775807) (hl2 : ds.length ≤ 9223372036854775807) (hl3 : s.length ≤ 9223372036854775807) :
    Calls Try.prog 5 #[v, u, x] w fun e w' => e = .returned (.bool true) ∧ Below w.heap.size w w' := by
  have HV := Lib.hid hv
  have HU := Lib.hid hu
  have HX := Lib.hid hx
  obtain ⟨A, cap, vs, rfl, hlen, hr, hvs⟩ := hv
  obtain ⟨A2, cap2, rfl, hr2⟩ := hu
  obtain ⟨A3, cap3, rfl, hr3⟩ := hx
  clear hr hvs hlen hr2 hr3
  go_enter Try.func5, Try.ntmps5
  go_wp2_with (fail)
  refine (sane_any _).mono ?_
  rintro e w1 ⟨rfl, hb1⟩
  have B1 := Lib.hid hb1
  clear hb1
  go_wp2_with (fail)
  refine (right_any _ _ l ds _ (HV.out.below B1.out) (HU.out.below B1.out) hl hl2).mono ?_
  rintro e w2 ⟨rfl, m, hm⟩
  have B2 : Hid (Below w.heap.size w w2) := by rw [hm]; exact below_drewN B1.out m
  clear hm B1
  cases hrb : rightB l ds
  · go_wp2_with (fail)
    go_ret
    exact ⟨rfl, B2.out⟩
  obtain ⟨h100, he⟩ := rightB_facts hrb
  have HE := Lib.hid he
  have HRt := Lib.hid (right_of he)
  have hd1 : ds.length ≤ l.length := by have := HRt.out.len; omega
  have hd2 : l.length ≤ ds.length := by have := HRt.out.len; omega
  have HA := Lib.hid (show accR l ds s = Pl.inTime l ds s by simp [accR, he])
  have HI := Lib.hid (show Pl.inTime l ds s = true → Pl.inTime l ds (Pl.shown ds) = true from Pl.inTime_shown HRt.out.len (fun i hi => (HRt.out.due i hi).1))
  have HO := Lib.hid (show okL l ds = Pl.inTime l ds (Pl.shown ds) by simp [okL, he])
  clear he hrb
  go_wp2_with (fail)
  refine (Accepts_any _ _ _ l ds s _ (HV.out.below B2.out) (HU.out.below B2.out) (HX.out.below B2.out) hl hl2 hl3).mono ?_
  rintro e w3 ⟨rfl, X3⟩
  have B3 := Lib.hid (B2.out.up X3)
  clear X3 B2
  rw [HE.out, HA.out]
  go_wp2_with (fail)
  refine (Latest_any _ _ l ds _ (HV.out.below B3.out) (HU.out.below B3.out) hl hl2).mono ?_
  rintro e w4 hP
  obtain ⟨A4, c4, A5, c5, rfl, H4, H5, X4⟩ := hP.gets
  have B4 := Lib.hid (B3.out.up X4.out)
  clear hP X4 B3 H5
  rw [HE.out]
  cases hok : okL l ds
  · have e3 : (laS l ds).length = 0 := by simp [laS, hok]
    have e4 : (laY l ds).length = 0 := by simp [laY, hok]
    have hi : Pl.inTime l ds s = false := by
      cases hi : Pl.inTime l ds s
      · rfl
      · have := HI.out hi
        rw [← HO.out, hok] at this
        cases this
    rw [e3, e4, hi]
    clear e3 e4 hok hi
    go_wp2_with (fail)
    go_ret
    exact ⟨rfl, B4.out⟩
  have e3 : laS l ds = Pl.shown ds := by simp [laS, hok]
  have n3 : (Pl.shown ds).length = l.length := by rw [Pl.shown_len]; omega
  have n4 : (laY l ds).length = l.length := by unfold laY; rw [if_pos hok, Pl.whys_len]; omega
  have HB := Lib.hid (HO.out.symm.trans hok)
  have hS0 := Lib.hid (wd_right HE.out HB.out)
  rw [e3, n3] at H4
  rw [e3, n3, n4]
  have N3 := Lib.hid n3
  clear hok e3 n3 n4 HO HI
  have hAB : accR l ds (Pl.shown ds) = true := by simp [accR, HE.out, HB.out]
  cases hi : Pl.inTime l ds s
  · go_wp2_with (fail)
    refine (Accepts_any _ _ _ l ds (Pl.shown ds) _ (HV.out.below B4.out) (HU.out.below B4.out) H4.out hl hl2 (by rw [N3.out]; omega)).mono ?_
    rintro e w5 ⟨rfl, X5⟩
    have B5 := Lib.hid (B4.out.up X5)
    replace H4 := Lib.hid (H4.out.below X5)
    clear X5 B4
    rw [HE.out, hAB]
    go_wp2_with (fail)
    refine (Withdrawn_any _ _ _ l ds (Pl.shown ds) _ (HV.out.below B5.out) (HU.out.below B5.out) H4.out hl hl2 (by rw [N3.out]; omega)).mono ?_
    rintro e w6 ⟨rfl, X6⟩
    have B6 := Lib.hid (B5.out.up X6)
    clear X6 B5
    rw [hS0.out.1]
    go_wp2_with (fail)
    go_ret
    exact ⟨rfl, B6.out⟩
  have hsl : s.length = l.length := ((Pl.inTime_iff l ds s HRt.out.len).1 hi).1
  have hs1 : s.length ≤ l.length := by omega
  have hs2 : l.length ≤ s.length := by omega
  have hnb : ((s.length : Int) != (l.length : Int)) = false := by simp [hsl]
  have HLE := Lib.hid (Pl.inTime_le HRt.out.len hi)
  have hT0 := Lib.hid (wd_right HE.out hi)
  have hMo : (Pl.lostF 0 l (Pl.shown ds)).length ≤ (Pl.lostF 0 l s).length := by
    have := Pl.withdrawn_mono hsl N3.out (fun i hi => HLE.out i hi)
    unfold Pl.withdrawn at this
    omega
  have hMd : decide ((Pl.lostF 0 l s).length < (Pl.lostF 0 l (Pl.shown ds)).length) = false := by simp; omega
  have HL := Lib.hid (lostF_bd (l := l) (ds := ds) (Pl.shown ds) HRt.out)
  clear hsl hi
  go_wp2_with (fail)
  refine (Accepts_any _ _ _ l ds (Pl.shown ds) _ (HV.out.below B4.out) (HU.out.below B4.out) H4.out hl hl2 (by rw [N3.out]; omega)).mono ?_
  rintro e w5 ⟨rfl, X5⟩
  have B5 := Lib.hid (B4.out.up X5)
  replace H4 := Lib.hid (H4.out.below X5)
  clear X5 B4
  rw [HE.out, hAB]
  go_wp2_with (fail)
  refine (Withdrawn_any _ _ _ l ds (Pl.shown ds) _ (HV.out.below B5.out) (HU.out.below B5.out) H4.out hl hl2 (by rw [N3.out]; omega)).mono ?_
  rintro e w6 ⟨rfl, X6⟩
  have B6 := Lib.hid (B5.out.up X6)
  replace H4 := Lib.hid (H4.out.below X6)
  clear X6 B5
  rw [hS0.out.1, hS0.out.2]
  go_wp2_with (fail)
  refine (Withdrawn_any _ _ _ l ds s _ (HV.out.below B6.out) (HU.out.below B6.out) (HX.out.below B6.out) hl hl2 hl3).mono ?_
  rintro e w7 ⟨rfl, X7⟩
  have B7 := Lib.hid (B6.out.up X7)
  replace H4 := Lib.hid (H4.out.below X7)
  clear X7 B6
  rw [hT0.out.1, hT0.out.2]
  go_wp2_with (fail)
  clear hMd hMo hT0 hnb hAB
  go_loopw [127, 19] (fun c mny wr => ∃ k : Nat, k ≤ l.length ∧ c = .int .i64 k ∧ mny = .int .i64 ((Pl.lostF 0 (l.take k) (Pl.shown ds)).length : Nat) ∧ Hid (Below w7.heap.size w7 wr)) (fun c _ _ => l.length - (intOf c).toNat)
  case atStart => exact ⟨0, Nat.zero_le _, rfl, rfl, Below.refl _ _⟩
  case round =>
    obtain ⟨k, hk, rfl, rfl, BR⟩ := hrel
    by_cases hlt : k < l.length
    · obtain ⟨wo, rfl⟩ : ∃ wo : World, wo = wr := ⟨_, rfl⟩
      have BO := Lib.hid (B7.out.up BR.out)
      have HVo := Lib.hid (HV.out.below BO.out)
      have HXo := Lib.hid (HX.out.below BO.out)
      have H4o := Lib.hid (H4.out.below BR.out)
      have h16 := HRt.out.most k hlt
      obtain ⟨b1, off1, A6, c6, rfl, hb1, hc1, HLv⟩ := isWords_at HVo.out hlt
      obtain ⟨b3, off3, rfl, hb3, hc3⟩ := isInts_at HXo.out (show k < s.length by omega)
      obtain ⟨b4, off4, rfl, hb4, hc4⟩ := isInts_at H4o.out (show k < (Pl.shown ds).length by rw [N3.out]; omega)
      have hle := HLE.out k hlt
      have HS := Lib.hid (lostF_ofN l (Pl.shown ds) k hlt (by rw [N3.out]; omega))
      rw [← Pl.at_eq (Pl.shown ds) k (by rw [N3.out]; omega)] at HS
      have hq1 := HL.out k
      have hq2 := HL.out (k + 1)
      have hof : ofN (Pl.at_ (Pl.shown ds) k) l[k] ≤ 16384 := by have := HS.out; omega
      generalize Pl.at_ (Pl.shown ds) k = tb at *
      generalize Pl.at_ s k = ts at *
      have hmo := ofN_mono hle l[k]
      have HFi := Lib.hid (goneIx_first hle l[k] l[k].length (Nat.le_refl _))
      rw [goneIx_all, goneIx_all] at HFi
      generalize (Pl.lostF 0 (l.take k) (Pl.shown ds)).length = q at *
      generalize l[k] = y at *
      have hk0 : (0 : Int) ≤ (k : Int) := by omega
      have hk1 : (k : Int) < (l.length : Int) := by omega
      have hk2 : (k : Int) < (s.length : Int) := by omega
      go_wp2_with (fail)
      go_region_held3 (fun X => Hid (Below wo.heap.size wo X) ∧ X.cell? ⟨b1, off1 + k, none⟩ = some (.slice A6 y.length c6) ∧ X.cell? ⟨b3, off3 + k, none⟩ = some (.int .i64 ts) ∧ X.cell? ⟨b4, off4 + k, none⟩ = some (.int .i64 tb))
        (first
          | exact ⟨below_drewN (Below.refl _ _) 1, hc1, hc3, hc4⟩
          | exact ⟨hBn, (hBn.out.cell (p := ⟨b1, off1 + k, none⟩) hb1).trans hc1, (hBn.out.cell (p := ⟨b3, off3 + k, none⟩) hb3).trans hc3, (hBn.out.cell (p := ⟨b4, off4 + k, none⟩) hb4).trans hc4⟩)
        (first
          | (go_at_call 21
             have hBx : Hid (Below wo.heap.size wo _) := (by ((try dsimp only at *); go_split_ands; assumption))
             (with_reducible refine (withdrawn_get _ y tb _ (HLv.out.below hBx.out) (by omega)).mono ?_)
             rintro e Y ⟨A7, c7, rfl, H7, X7⟩
             have hBn := Lib.hid (hBx.out.up X7.out)
             clear hBx X7)
          | (go_at_call 21
             have hBx : Hid (Below wo.heap.size wo _) := (by ((try dsimp only at *); go_split_ands; assumption))
             (with_reducible refine (withdrawn_get _ y ts _ (HLv.out.below hBx.out) (by omega)).mono ?_)
             rintro e Y ⟨A8, c8, rfl, H8, X8⟩
             have hBn := Lib.hid (hBx.out.up X8.out)
             replace H7 := Lib.hid (H7.out.below X8.out)
             clear hBx X8))
      have hx3 := (hBn.out.cell (p := ⟨b3, off3 + k, none⟩) hb3).trans hc3
      have hx4 := (hBn.out.cell (p := ⟨b4, off4 + k, none⟩) hb4).trans hc4
      clear hc1 hc3 hc4
      have HBY := Lib.hid (BR.out.up hBn.out)
      have d1 : decide (tb < ts) = false := by simp; omega
      have d2 : decide (ofN ts y < ofN tb y) = false := by simp; omega
      by_cases g : 0 < ofN tb y
      · obtain ⟨g2, g3⟩ := HFi.out g
        obtain ⟨b7, off7, rfl, _, hc7⟩ := isInts_at (k := 0) H7.out (by rw [goneIx_all]; exact g)
        obtain ⟨b8, off8, rfl, _, hc8⟩ := isInts_at (k := 0) H8.out (by rw [goneIx_all]; exact g2)
        simp only [Nat.add_zero] at hc7 hc8
        generalize Pl.at_ (goneIx tb y y.length) 0 = o1 at *
        generalize Pl.at_ (goneIx ts y y.length) 0 = o2 at *
        have d3 : decide (0 < ofN tb y) = true := by simp [g]
        have d4 : decide (o1 < o2) = false := by simp; omega
        clear g3
        clear HFi
        go_wp2_with (fail)
        go_quiet (fail)
        go_wp2_with (fail)
        go_roundw
        case rel => exact ⟨k + 1, by omega, by go_num, by rw [HS.out]; go_num, below_drewN HBY.out _⟩
        case measure => first | omega | (simp [intOf]; done) | (simp [intOf]; omega)
      · have d3 : decide (0 < ofN tb y) = false := by simp; omega
        clear HFi
        go_wp2_with (fail)
        go_quiet (fail)
        go_wp2_with (fail)
        go_roundw
        case rel => exact ⟨k + 1, by omega, by go_num, by rw [HS.out]; go_num, below_drewN HBY.out _⟩
        case measure => first | omega | (simp [intOf]; done) | (simp [intOf]; omega)
    · have HF := Lib.hid (show (Pl.lostF 0 (l.take k) (Pl.shown ds)).length = (Pl.lostF 0 l (Pl.shown ds)).length by rw [List.take_of_length_le (by omega)])
      rw [HF.out]
      go_wp2_with (fail)
      go_ret
      exact ⟨rfl, B7.out.up BR.out⟩

end Go.Proofs.Ytofllhbcediafaa

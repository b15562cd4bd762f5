/- The statement PlanLater, walked. -/
import Derived.Test.YtofllhbcediafaaL3
import Derived.Test.YtofllhbcediafaaPlain8
import Derived.Test.YtofllhbcediafaaClone
namespace Go.Proofs.Ytofllhbcediafaa
open Go.RowKit
set_option linter.unusedVariables false
set_option linter.unusedSimpArgs false

/-- what follows if word k is due at y instead -/
theorem later_facts {l : List (List Pl.Life)} {ds : List Int} (he : Pl.err l ds = 0) (hok : okL l ds = true) (k : Nat) (hk : k < ds.length) (y : Int) (h1 : Pl.at_ ds k ≤ y) (h2 : y < 1099511627776) :
    Pl.err l (ds.set k y) = 0 ∧ okL l (ds.set k y) = true ∧ wdE l ds (Pl.shown ds) = 0 ∧ wdE l (ds.set k y) (Pl.shown (ds.set k y)) = 0 ∧
    wdN l ds (Pl.shown ds) = ((Pl.lostF 0 l (Pl.shown ds)).length : Int) ∧ wdN l (ds.set k y) (Pl.shown (ds.set k y)) = ((Pl.lostF 0 l (Pl.shown (ds.set k y))).length : Int) ∧
    (Pl.lostF 0 l (Pl.shown (ds.set k y))).length ≤ (Pl.lostF 0 l (Pl.shown ds)).length ∧ (Pl.lostF 0 l (Pl.shown ds)).length ≤ Pl.revT l := by
  have hR := right_of he
  have hlen := hR.len
  have hlen2 : (ds.set k y).length = l.length := by rw [List.length_set]; exact hlen
  have he2 : Pl.err l (ds.set k y) = 0 := by
    obtain ⟨a1, a2, a3⟩ := (Pl.err_zero l ds hlen).1 he
    refine (Pl.err_zero l _ hlen2).2 ⟨a1, a2, fun i hi => ?_⟩
    rw [Pl.at_set ds k y i hk]
    split
    · rename_i e; subst e
      have := hR.due i hk
      exact Pl.wordOk_due (a3 i hi) (by omega) h2
    · exact a3 i hi
  have hR2 := right_of he2
  have hi1 : Pl.inTime l ds (Pl.shown ds) = true := by simp [okL, he] at hok; exact hok
  have hb := (ok_iff hR he).1 hok
  have hok2 : okL l (ds.set k y) = true := (ok_iff hR2 he2).2 (fun i hi => by
    have := hb i hi
    have h4 := Pl.shown_set ds k y hk h1 i (by omega)
    omega)
  have hi2 : Pl.inTime l (ds.set k y) (Pl.shown (ds.set k y)) = true := by simp [okL, he2] at hok2; exact hok2
  obtain ⟨b1, b2⟩ := wd_right he hi1
  obtain ⟨b3, b4⟩ := wd_right he2 hi2
  have hs1 : (Pl.shown ds).length = l.length := by rw [Pl.shown_len]; exact hlen
  have hs2 : (Pl.shown (ds.set k y)).length = l.length := by rw [Pl.shown_len]; exact hlen2
  have hm := Pl.withdrawn_mono hs1 hs2 (fun i hi => Pl.shown_set ds k y hk h1 i (by omega))
  unfold Pl.withdrawn at hm
  exact ⟨he2, hok2, b1, b3, b2, b4, by omega, Pl.lostF_rev l _ hs1⟩

theorem isLives_at {w : World} {A : Option Addr} {n c : Nat} {x : List Pl.Life} (h : IsLives w (.slice A n c) x) {k : Nat} (hk : k < x.length) :
    ∃ b off, A = some ⟨b, off, none⟩ ∧ b < w.heap.size ∧ w.cell? ⟨b, off + k * 2, none⟩ = some (.int .i64 x[k].1) ∧ w.cell? ⟨b, off + k * 2 + 1, none⟩ = some (.int .i64 x[k].2) := by
  obtain ⟨A', c', e, hr⟩ := h
  injection e with e1 e2 e3
  subst e1
  exact lives_at hr hk

theorem LaPost.yes' {l : List (List Pl.Life)} {ds : List Int} {w w' : World} {e : Ending} (h : LaPost l ds w e w') (he : Pl.err l ds = 0) (hok : okL l ds = true) {n : Nat} (hn : ds.length = n) :
    ∃ A c A2 c2, e = .returned (.tuple #[.slice A n c, .slice A2 n c2, .bool true, .int .i64 0]) ∧ Hid (IsInts w' (.slice A n c) (Pl.shown ds)) ∧ Hid (IsInts w' (.slice A2 n c2) (Pl.whys ds)) ∧ Hid (Below w.heap.size w w') := by
  obtain ⟨A, c, A2, c2, h1, h2, h3, h4⟩ := h.gets
  have e1 : laS l ds = Pl.shown ds := by simp [laS, hok]
  have e2 : laY l ds = Pl.whys ds := by simp [laY, hok]
  rw [e1, e2, Pl.shown_len, Pl.whys_len, hok, he, hn] at h1
  rw [e1, Pl.shown_len, hn] at h2
  rw [e2, Pl.whys_len, hn] at h3
  exact ⟨A, c, A2, c2, h1, h2, h3, h4⟩

set_option maxHeartbeats 4000000 in
set_option maxRecDepth 100000 in
theorem PlanLater_any (v u : Value) (l : List (List Pl.Life)) (ds : List Int) (a m : Nat) (w : World) (hv : IsWords w v l) (hu : IsInts w u ds) (hl : l.length ≤ 9223372036854775807) (hl2 : ds.length ≤ 9223372036854775807) (ha : a ≤ 255) (hm : m ≤ 4294967295) :
    Calls Try.prog 7 #[v, u, .int .u8 (a : Int), .int .u32 (m : Int)] w fun e w' => e = .returned (.bool true) ∧ Below w.heap.size w w' := by
  have HV := Lib.hid hv
  have HU := Lib.hid hu
  obtain ⟨A, cap, vs, rfl, hlen, hr, hvs⟩ := hv
  obtain ⟨A2, cap2, rfl, hr2⟩ := hu
  clear hr hvs hlen hr2
  go_enter Try.func7, Try.ntmps7
  go_wp2_with (fail)
  refine (sane_any _).mono ?_
  rintro e w1 ⟨rfl, hb1⟩
  have B1 := Lib.hid hb1
  clear hb1
  go_wp2_with (fail)
  refine (right_any _ _ l ds _ (HV.out.below B1.out) (HU.out.below B1.out) hl hl2).mono ?_
  rintro e w2 ⟨rfl, q, hq⟩
  have B2 : Hid (Below w.heap.size w w2) := by rw [hq]; exact below_drewN B1.out q
  clear hq B1
  cases hrb : rightB l ds
  · go_wp2_with (fail)
    go_ret
    exact ⟨rfl, B2.out⟩
  obtain ⟨h100, he⟩ := rightB_facts hrb
  have HE := Lib.hid he
  have HRt := Lib.hid (right_of he)
  have hd1 : ds.length ≤ l.length := by have := HRt.out.len; omega
  have hd2 : l.length ≤ ds.length := by have := HRt.out.len; omega
  clear hrb
  by_cases h0 : l.length = 0
  · have hz : ((l.length : Int) == 0) = true := by simp [h0]
    clear h0 he
    go_wp2_with (fail)
    go_ret
    exact ⟨rfl, B2.out⟩
  have hz : ((l.length : Int) == 0) = false := by rw [beq_eq_false_iff_ne]; omega
  have hpos : 0 < l.length := by omega
  clear h0
  go_wp2_with (fail)
  refine (Latest_any _ _ l ds _ (HV.out.below B2.out) (HU.out.below B2.out) hl hl2).mono ?_
  rintro e w3 hP
  cases hok : okL l ds
  · obtain ⟨A4, c4, A5, c5, rfl, _, _, X3⟩ := hP.gets
    have B3 := Lib.hid (B2.out.up X3.out)
    clear hP X3 B2
    rw [HE.out, hok]
    clear hok he
    go_wp2_with (fail)
    go_ret
    exact ⟨rfl, B3.out⟩
  obtain ⟨A4, c4, A5, c5, rfl, H4, _, X3⟩ := hP.yes' (n := l.length) he hok HRt.out.len
  have B3 := Lib.hid (B2.out.up X3.out)
  have hkd : a % l.length < ds.length := by have := Nat.mod_lt a hpos; omega
  have HM := Lib.hid (Int.natCast_emod a l.length).symm
  have hdue := HRt.out.due _ hkd
  obtain ⟨y, hy1, hy2, hy3⟩ : ∃ y : Int, Pl.at_ ds (a % l.length) ≤ y ∧ y < 1099511627776 ∧ Hid (y = min 1099511627775 (Pl.at_ ds (a % l.length) + m)) := ⟨min 1099511627775 (Pl.at_ ds (a % l.length) + m), by omega, by omega, rfl⟩
  obtain ⟨F1, F2, F3, F4, F5, F6, F7, F8⟩ := later_facts he hok (a % l.length) hkd y hy1 hy2
  have G1 := Lib.hid F1
  have G2 := Lib.hid F2
  have G3 := Lib.hid F3
  have G4 := Lib.hid F4
  have G5 := Lib.hid F5
  have G6 := Lib.hid F6
  have G7 := Lib.hid F7
  have G8 := Lib.hid F8
  clear F1 F2 F3 F4 F5 F6 F7 F8
  clear hP X3 B2 he hok
  go_wp2_with (fail)
  refine (Withdrawn_any _ _ _ l ds (Pl.shown ds) _ (HV.out.below B3.out) (HU.out.below B3.out) H4.out hl hl2 (by rw [Pl.shown_len]; omega)).mono ?_
  rintro e w4 ⟨rfl, X4⟩
  have B4 := Lib.hid (B3.out.up X4)
  clear X4 B3 H4
  rw [G3.out, G5.out]
  have HU4 := Lib.hid (HU.out.below B4.out)
  have hdp : 0 < ds.length := by omega
  have hdb : ds.length ≤ 1000000 := by omega
  go_wp2_with (at_builtin; go_must (refine wpList_clone rfl (.tmp 67) (.tmp 68) rfl _ rfl rfl ds A2 ds.length cap2 rfl HU4.out hdp hdb ?_); intro g cg w5 hown hb5; have HO := Lib.hid hown; have HB5 := Lib.hid hb5; have hce := own_cell hown (a % l.length) hkd; rw [← Pl.at_eq ds _ hkd] at hce; have hfr := own_frozen hown (a % l.length); clear hown hb5)
  all_goals
    first
      | rw [show Pl.at_ ds (a % l.length) + ↑m = y by have := hy3.out; omega]
      | rw [show (1099511627775 : Int) = y by have := hy3.out; omega]
    have HEa := Lib.hid (own_set HO.out (a % l.length) y).ints
    have X6 := Lib.hid (HB5.out.setCell (p := ⟨g, a % l.length, none⟩) (own_ge HO.out) (.int .i64 y))
    obtain ⟨w6, hw6⟩ : ∃ w6, w5.setCell ⟨g, a % l.length, none⟩ (.int .i64 y) = w6 := ⟨_, rfl⟩
    rw [hw6] at HEa X6 ⊢
    have B6 := Lib.hid (B4.out.up X6.out)
    clear hw6 hce hfr HO HB5 X6 HU4 B4
    have hel : (ds.set (a % l.length) y).length = ds.length := by rw [List.length_set]
    have HEL := Lib.hid hel
    clear hel
    generalize ds.set (a % l.length) y = es at *
    refine (Latest_any _ _ l es _ (HV.out.below B6.out) HEa.out hl (by rw [HEL.out]; omega)).mono ?_
    rintro e w7 hP
    obtain ⟨A6, c6, A7, c7, rfl, H6, _, X7⟩ := hP.yes' (n := ds.length) G1.out G2.out HEL.out
    have B7 := Lib.hid (B6.out.up X7.out)
    replace HEa := Lib.hid (HEa.out.below X7.out)
    clear hP X7 B6
    go_wp2_with (fail)
    refine (Withdrawn_any _ _ _ l es (Pl.shown es) _ (HV.out.below B7.out) HEa.out H6.out hl (by rw [HEL.out]; omega) (by rw [Pl.shown_len, HEL.out]; omega)).mono ?_
    rintro e w8 ⟨rfl, X8⟩
    have B8 := Lib.hid (B7.out.up X8)
    clear X8 B7
    rw [G4.out, G6.out]
    have HV8 := Lib.hid (HV.out.below B8.out)
    have HRB := Lib.hid (Pl.revT_bd l 16 HRt.out.most)
    go_wp2_with (fail)
    go_loopw [108, 23] (fun c r wr => ∃ i : Nat, i ≤ l.length ∧ c = .int .i64 i ∧ r = .int .i64 (Pl.revT (l.take i) : Nat) ∧ Hid (Below w8.heap.size w8 wr)) (fun c _ _ => l.length - (intOf c).toNat)
    case atStart => exact ⟨0, Nat.zero_le _, rfl, rfl, Below.refl _ _⟩
    case round =>
      obtain ⟨i, hi, rfl, rfl, BR⟩ := hrel
      by_cases hlt : i < l.length
      · obtain ⟨wo, rfl⟩ : ∃ wo : World, wo = wr := ⟨_, rfl⟩
        obtain ⟨b1, off1, A8, c8, rfl, hb1, hc1, HLv⟩ := isWords_at (HV8.out.below BR.out) hlt
        have h16 := HRt.out.most i hlt
        have hq1 := HRB.out i hi
        have HS := Lib.hid (Pl.revT_step l i hlt)
        have hq2 := HRB.out (i + 1) (by omega)
        have hq3 : Pl.revT (l.take i) + Pl.revN l[i] ≤ 1600 := by have := HS.out; omega
        generalize Pl.revT (l.take i) = q at *
        generalize l[i] = x at *
        go_wp2_with (fail)
        go_loopw [114, 23] (fun c r wr => ∃ j : Nat, j ≤ x.length ∧ c = .int .i64 j ∧ r = .int .i64 (q + Pl.revN (x.take j) : Nat) ∧ Hid (Below wo.heap.size wo wr)) (fun c _ _ => x.length - (intOf c).toNat)
        case atStart => exact ⟨0, Nat.zero_le _, rfl, rfl, Below.refl _ _⟩
        case round =>
          obtain ⟨j, hj, rfl, rfl, BI⟩ := hrel
          by_cases hlj : j < x.length
          · obtain ⟨b9, off9, rfl, _, hd1', hd2'⟩ := isLives_at (HLv.out.below BI.out) hlj
            have HBa := fun o => Lib.hid (BI.out.up (al1 _ o))
            have HJ := Lib.hid (Pl.revN_step x j hlj)
            have hq4 := Pl.revN_le' x j
            by_cases g1 : x[j].2 < 1099511627776
            · have HJ2 := Lib.hid (show q + Pl.revN (x.take (j + 1)) = q + Pl.revN (x.take j) + 1 by rw [HJ.out, if_pos g1]; omega)
              clear HJ
              generalize x[j].1 = bo at *
              generalize x[j].2 = go at *
              generalize Pl.revN (x.take j) = r0 at *
              go_wp2_with (fail)
              go_roundw
              case rel => exact ⟨j + 1, by omega, by go_num, by rw [HJ2.out]; go_num, HBa _⟩
              case measure => first | omega | (simp [intOf]; done) | (simp [intOf]; omega)
            · have HJ2 := Lib.hid (show q + Pl.revN (x.take (j + 1)) = q + Pl.revN (x.take j) by rw [HJ.out, if_neg g1]; omega)
              clear HJ
              generalize x[j].1 = bo at *
              generalize x[j].2 = go at *
              generalize Pl.revN (x.take j) = r0 at *
              go_wp2_with (fail)
              go_roundw
              case rel => exact ⟨j + 1, by omega, by go_num, by rw [HJ2.out], HBa _⟩
              case measure => first | omega | (simp [intOf]; done) | (simp [intOf]; omega)
          · have HJ := Lib.hid (show Pl.revN (x.take j) = Pl.revN x by rw [List.take_of_length_le (by omega)])
            rw [HJ.out]
            go_wp2_with (fail)
            go_roundw
            case rel => exact ⟨i + 1, by omega, by go_num, by rw [HS.out], BR.out.up BI.out⟩
            case measure => first | omega | (simp [intOf]; done) | (simp [intOf]; omega)
      · have HF := Lib.hid (show Pl.revT (l.take i) = Pl.revT l by rw [List.take_of_length_le (by omega)])
        rw [HF.out]
        have d1 : decide ((Pl.lostF 0 l (Pl.shown es)).length ≤ (Pl.lostF 0 l (Pl.shown ds)).length) = true := by simpa using G7.out
        have d2 : decide ((Pl.lostF 0 l (Pl.shown ds)).length ≤ Pl.revT l) = true := by simpa using G8.out
        go_wp2_with (fail)
        go_ret
        exact ⟨rfl, B8.out.up BR.out⟩

end Go.Proofs.Ytofllhbcediafaa

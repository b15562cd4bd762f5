/- Walk of the reference's Accepts. -/
import Derived.Test.YtchjjcmlekknfaaW5
namespace Go.Proofs.Ytchjjcmlekknfaa
open Go.RowKit
set_option linter.unusedVariables false
set_option linter.unusedSimpArgs false

theorem row_yes {q : Sc.Qs} {h : List Int} {j : Nat} (hh : ∀ i, j - q.m ≤ i → i < j → Sc.at_ h j ≤ Sc.scr q i j (Sc.at_ h i)) : Sc.rowB q h j = true := by
  unfold Sc.rowB
  rw [List.all_eq_true]
  intro i hi
  obtain ⟨a, b⟩ := Sc.mem_ins.1 hi
  exact decide_eq_true (hh i a b)
theorem row_no {q : Sc.Qs} {h : List Int} {j i : Nat} (h1 : j - q.m ≤ i) (h2 : i < j) (hh : ¬ Sc.at_ h j ≤ Sc.scr q i j (Sc.at_ h i)) : Sc.rowB q h j = false := by
  rw [Bool.eq_false_iff]
  intro e
  unfold Sc.rowB at e
  rw [List.all_eq_true] at e
  exact hh (of_decide_eq_true (e i (Sc.mem_ins.2 ⟨h1, h2⟩)))
theorem acc_no1 {q : Sc.Qs} {ends h : List Int} (hh : h.length ≠ q.r.length + 1) : Sc.accB q ends h = false := by unfold Sc.accB; rw [decide_eq_false hh]; rfl
theorem acc_no2 {q : Sc.Qs} {ends h : List Int} {j : Nat} (hj : j < h.length) (hh : ¬ (0 ≤ Sc.at_ h j ∧ Sc.at_ h j ≤ 4398046511104)) : Sc.accB q ends h = false := by
  have : Sc.inB h = false := by
    rw [Bool.eq_false_iff]; intro e
    unfold Sc.inB at e
    rw [List.all_eq_true] at e
    have := e h[j] (List.getElem_mem hj)
    rw [at_get hj] at hh
    simp only [Bool.and_eq_true, decide_eq_true_eq] at this
    exact hh this
  unfold Sc.accB; rw [this]; simp
theorem acc_no3 {q : Sc.Qs} {ends h : List Int} (hh : Sc.grpI q.m q.r.length 0 ends = false) : Sc.accB q ends h = false := by unfold Sc.accB; rw [hh]; simp
theorem acc_no4 {q : Sc.Qs} {ends h : List Int} {j : Nat} (hj : j ≤ q.r.length) (hh : Sc.rowB q h j = false) : Sc.accB q ends h = false := by
  have : (List.range (q.r.length + 1)).all (Sc.rowB q h) = false := by
    rw [Bool.eq_false_iff]; intro e
    rw [List.all_eq_true] at e
    rw [e j (List.mem_range.2 (by omega))] at hh; cases hh
  unfold Sc.accB; rw [this]; simp
theorem acc_last {q : Sc.Qs} {ends h : List Int} (h1 : h.length = q.r.length + 1) (h2 : ∀ j, j < h.length → 0 ≤ Sc.at_ h j ∧ Sc.at_ h j ≤ 4398046511104) (h3 : Sc.grpI q.m q.r.length 0 ends = true) (h4 : ∀ j, j ≤ q.r.length → Sc.rowB q h j = true) :
    Sc.accB q ends h = (Sc.at_ h q.r.length == Sc.doneI q 0 0 ends) := by
  have e2 : Sc.inB h = true := by
    unfold Sc.inB
    rw [List.all_eq_true]
    intro x hx
    obtain ⟨j, hj, rfl⟩ := List.getElem_of_mem hx
    have := h2 j hj
    rw [at_get hj] at this
    simp only [Bool.and_eq_true, decide_eq_true_eq]; exact this
  have e4 : (List.range (q.r.length + 1)).all (Sc.rowB q h) = true := by
    rw [List.all_eq_true]
    intro j hj
    exact h4 j (by have := List.mem_range.1 hj; omega)
  unfold Sc.accB; rw [decide_eq_true h1, e2, h3, e4]; simp only [Bool.true_and]
  by_cases h : Sc.at_ h q.r.length = Sc.doneI q 0 0 ends <;> simp [h]

theorem grouping_is {v : Value} {es : List Int} {n m : Int} {b : Bool} {w : World} (h : Sc.grpI m n 0 es = b) (hv : IsInts w v es) (hl : es.length ≤ 9223372036854775807) (hn : 0 ≤ n) (hn2 : n ≤ 1000000) :
    Calls Try.prog 19 #[.int .i64 n, .int .i64 m, v] w fun e w' => e = .returned (.bool b) ∧ w = w' := by subst h; exact grouping_any v es n m w hv hl hn hn2

set_option maxHeartbeats 8000000 in
set_option maxRecDepth 100000 in
theorem refAccepts_any (v u z y : Value) (r d : List Int) (m f : Int) (ends h : List Int) (w : World) (hv : IsInts w v r) (hu : IsInts w u d) (hz : IsInts w z ends) (hy : IsInts w y h)
    (hl : r.length ≤ 9223372036854775807) (hl2 : d.length ≤ 9223372036854775807) (hl3 : ends.length ≤ 9223372036854775807) (hl4 : h.length ≤ 9223372036854775807) :
    Calls Try.prog 17 #[v, u, .int .i64 m, .int .i64 f, z, y] w (APost r d m f ends h w) := by
  have HV := Lib.hid hv
  have HU := Lib.hid hu
  have HZ := Lib.hid hz
  obtain ⟨A, c, rfl, _⟩ := id hv
  obtain ⟨A2, c2, rfl, _⟩ := id hu
  obtain ⟨A3, c3, rfl, _⟩ := id hz
  obtain ⟨A4, c4, rfl, hr4⟩ := id hy
  have HR4 := Lib.hid hr4
  clear hv hu hz hy hr4
  by_cases h0 : Sc.errQ r d m f = 0
  rotate_left
  · have HG := Lib.hid (show aB r d m f ends h = false from if_neg h0)
    obtain ⟨e0, he0⟩ : ∃ e, Sc.errQ r d m f = e := ⟨_, rfl⟩
    have hb0 : (e0 == 0) = false := by rw [← he0]; simpa using h0
    have HE := Lib.hid he0
    clear h0 he0
    go_enter Try.func17, Try.ntmps17
    go_wp2_with (fail)
    refine (refError_is HE.out HV.out HU.out hl hl2).mono ?_
    rintro e _ ⟨rfl, n, rfl⟩
    go_wp2_with (fail)
    go_ret2
    exact ⟨by rw [HG.out, HE.out]; rfl, below_drewN (Below.refl _ w) n⟩
  have HG := Lib.hid (show aB r d m f ends h = Sc.accB (Sc.mkQ r d m f) ends h from if_pos h0)
  have HE := Lib.hid h0
  have HN := Lib.hid (Sc.errQ_zero h0)
  have HQ := Lib.hid (Sc.ok_of h0)
  have hrn := HN.out.1
  have hm1 := HN.out.2.2.1
  have hm8 := HN.out.2.2.2.1
  have HM := Lib.hid (show (((Sc.mkQ r d m f).m : Nat) : Int) = m from by show (m.toNat : Int) = m; omega)
  clear h0
  go_enter Try.func17, Try.ntmps17
  go_wp2_with (fail)
  refine (refError_is HE.out HV.out HU.out hl hl2).mono ?_
  rintro e _ ⟨rfl, n0, rfl⟩
  go_wp2_with (fail)
  cases hg : Sc.grpI m r.length 0 ends
  · have HA := Lib.hid (show aB r d m f ends h = false by rw [HG.out]; refine acc_no3 ?_; rw [HM.out]; exact hg)
    refine (grouping_is hg (show IsInts (w.drewN n0) _ ends from HZ.out) hl3 (by omega) (by omega)).mono ?_
    rintro e _ ⟨rfl, rfl⟩
    go_wp2_with (fail)
    go_ret2
    exact ⟨by rw [HA.out, HE.out]; rfl, below_drewN (Below.refl _ w) n0⟩
  refine (grouping_is hg (show IsInts (w.drewN n0) _ ends from HZ.out) hl3 (by omega) (by omega)).mono ?_
  rintro e _ ⟨rfl, rfl⟩
  replace hg := Lib.hid hg
  by_cases hhl : h.length = r.length + 1
  rotate_left
  · have HA := Lib.hid (show aB r d m f ends h = false by rw [HG.out]; exact acc_no1 hhl)
    have hbl : ((h.length : Int) != (r.length : Int) + 1) = true := by simp; omega
    have hbl2 : ((h.length : Int) == (r.length : Int) + 1) = false := by simp; omega
    clear hhl
    go_wp2_with (fail)
    go_ret2
    exact ⟨by rw [HA.out, HE.out]; rfl, below_drewN (Below.refl _ w) n0⟩
  have hbl : ((h.length : Int) != (r.length : Int) + 1) = false := by simp; omega
  have hbl2 : ((h.length : Int) == (r.length : Int) + 1) = true := by simp; omega
  have HHL := Lib.hid hhl
  clear hhl
  go_wp2_with (fail)
  go_loopw [16, 17] (fun jv _ wr => ∃ j : Nat, j ≤ r.length + 1 ∧ jv = .int .i64 j ∧ Hid ((∀ x, x < j → 0 ≤ Sc.at_ h x ∧ Sc.at_ h x ≤ 4398046511104) ∧ ∀ x, x < j → Sc.rowB (Sc.mkQ r d m f) h x = true) ∧ ∃ q, wr = w.drewN q) (fun jv _ _ => r.length + 1 - (intOf jv).toNat)
  case atStart => exact ⟨0, Nat.zero_le _, rfl, Lib.hid ⟨fun x hx => absurd hx (Nat.not_lt_zero _), fun x hx => absurd hx (Nat.not_lt_zero _)⟩, n0, rfl⟩
  case round =>
    obtain ⟨j, hj, rfl, H, q, rfl⟩ := hrel
    by_cases hlt : j ≤ r.length
    · have dj : decide ((j : Int) ≤ (r.length : Int)) = true := by rw [decide_eq_true_eq]; omega
      have hjh : j < h.length := by have := HHL.out; omega
      obtain ⟨b, off, e4, _, hc⟩ := at_cell HR4.out hjh
      have HAT := Lib.hid (fun (x : Nat) (hx : x < h.length) => at_cell HR4.out hx)
      subst e4
      obtain ⟨y, hy⟩ : ∃ y, Sc.at_ h j = y := ⟨_, rfl⟩
      rw [hy] at hc
      have HY := Lib.hid hy
      clear hy
      cases hin : (decide (0 ≤ y) && decide (y ≤ 4398046511104))
      · have HA := Lib.hid (show aB r d m f ends h = false by
          rw [HG.out]
          refine acc_no2 hjh ?_
          rw [HY.out]
          simp only [Bool.and_eq_false_iff, decide_eq_false_iff_not] at hin
          omega)
        replace hin := Lib.hid hin
        go_wp2_with (fail)
        refine (refWithin_is hin.out).mono ?_
        rintro e _ ⟨rfl, rfl⟩
        go_wp2_with (fail)
        go_ret2
        exact ⟨by rw [HA.out, HE.out]; rfl, below_drewN (Below.refl _ w) _⟩
      have HIN := Lib.hid (show 0 ≤ y ∧ y ≤ 4398046511104 by simpa using hin)
      replace hin := Lib.hid hin
      have hmx : max (0 : Int) ((j : Int) - m) = ((j - m.toNat : Nat) : Int) := by omega
      have hmx2 : (if (0 : Int) < (j : Int) - m then (j : Int) - m else 0) = ((j - m.toNat : Nat) : Int) := by split <;> omega
      have hlo : j - m.toNat ≤ j := Nat.sub_le _ _
      have HLO := Lib.hid (show j - (Sc.mkQ r d m f).m = j - m.toNat from rfl)
      have hcase : (0 : Int) < (j : Int) - m ∨ ¬ (0 : Int) < (j : Int) - m := Classical.em _
      generalize hlo0 : j - m.toNat = lo at *
      have HL0 := Lib.hid hlo0
      clear hlo0
      have hjm : IntKind.i64.wrap ((j : Int) - m) = (j : Int) - m := by rw [IntKind.wrap_i64]; omega
      rcases hcase with hcase | hcase
      · have hst : (j : Int) - m = (lo : Int) := by have := HL0.out; omega
        rw [hst] at hcase hjm
        go_wp2_with (fail)
        refine (refWithin_is hin.out).mono ?_
        rintro e _ ⟨rfl, rfl⟩
        go_wp2_with (fail)
        go_loopw [17] (fun iv wr => ∃ i : Nat, lo ≤ i ∧ i ≤ j ∧ iv = .int .i64 i ∧ Hid (∀ x, lo ≤ x → x < i → Sc.at_ h j ≤ Sc.scr (Sc.mkQ r d m f) x j (Sc.at_ h x)) ∧ ∃ q, wr = w.drewN q) (fun iv _ => j - (intOf iv).toNat)
        case atStart => exact ⟨lo, Nat.le_refl _, hlo, by congr 1, Lib.hid (fun x h1 h2 => absurd h2 (by omega)), q, rfl⟩
        case round =>
          obtain ⟨i, hi1, hi2, rfl, HI, q2, rfl⟩ := hrel
          by_cases hij : i < j
          · have dij : decide ((i : Int) < (j : Int)) = true := by rw [decide_eq_true_eq]; omega
            have hih : (i : Int) < (h.length : Int) := by omega
            have hjh2 : (j : Int) < (h.length : Int) := by omega
            obtain ⟨b', off', e', _, hci⟩ := HAT.out i (by omega)
            injection e' with e'
            injection e' with e1 e2
            subst e1 e2
            have HBI := Lib.hid (H.out.1 i hij)
            obtain ⟨yi, hyi⟩ : ∃ y, Sc.at_ h i = y := ⟨_, rfl⟩
            rw [hyi] at hci HBI
            have HYI := Lib.hid hyi
            clear hyi
            have HSC := Lib.hid (fun W (hV : IsInts W (.slice A r.length c) r) (hU : IsInts W (.slice A2 d.length c2) d) => refScreen_any (.slice A r.length c) (.slice A2 d.length c2) (Sc.mkQ r d m f) i j yi W hV hU HQ.out hij hlt HBI.out.1 (by have := HBI.out.2; omega))
            obtain ⟨s, hs⟩ : ∃ s, Sc.scr (Sc.mkQ r d m f) i j yi = s := ⟨_, rfl⟩
            rw [hs] at HSC
            have HSS := Lib.hid hs
            clear hs
            by_cases hys : s < y
            · have dys : decide (s < y) = true := decide_eq_true hys
              have HA := Lib.hid (show aB r d m f ends h = false by
                rw [HG.out]
                refine acc_no4 (j := j) hlt (row_no (i := i) (by rw [HLO.out]; exact hi1) hij ?_)
                rw [HY.out, HYI.out, HSS.out]; omega)
              clear hys
              go_wp2_with (fail)
              go_quiet ((go_at_call 38; exact quiet_q (HSC.out _ HV.out HU.out)))
              go_wp2_with (fail)
              go_ret2
              exact ⟨by rw [HA.out, HE.out]; rfl, below_drewN (below_drewN (Below.refl _ w) _) _⟩
            · have dys : decide (s < y) = false := decide_eq_false hys
              have HI2 := Lib.hid (show ∀ x, lo ≤ x → x < i + 1 → Sc.at_ h j ≤ Sc.scr (Sc.mkQ r d m f) x j (Sc.at_ h x) from fun x h1 h2 => by
                by_cases hx : x = i
                · subst hx; rw [HY.out, HYI.out, HSS.out]; omega
                · exact HI.out x h1 (by omega))
              clear hys
              go_wp2_with (fail)
              go_quiet ((go_at_call 38; exact quiet_q (HSC.out _ HV.out HU.out)))
              go_wp2_with (fail)
              go_roundw
              case rel => exact ⟨i + 1, by omega, by omega, by go_num, HI2, _, rfl⟩
              case measure => first | omega | (simp [intOf]; omega)
          · have dij : decide ((i : Int) < (j : Int)) = false := by rw [decide_eq_false_iff_not]; omega
            obtain rfl : i = j := by omega
            have HN2 := Lib.hid (show (∀ x, x < i + 1 → 0 ≤ Sc.at_ h x ∧ Sc.at_ h x ≤ 4398046511104) ∧ ∀ x, x < i + 1 → Sc.rowB (Sc.mkQ r d m f) h x = true from by
              refine ⟨fun x hx => ?_, fun x hx => ?_⟩
              · by_cases hxi : x = i
                · subst hxi; rw [HY.out]; exact HIN.out
                · exact H.out.1 x (by omega)
              · by_cases hxi : x = i
                · subst hxi; exact row_yes (fun x' h1 h2 => HI.out x' (by rw [← HLO.out]; exact h1) h2)
                · exact H.out.2 x (by omega))
            go_wp2_with (fail)
            go_roundw
            case rel => exact ⟨i + 1, by omega, by go_num, HN2, _, rfl⟩
            case measure => first | omega | (simp [intOf]; omega)
      · have hst : lo = 0 := by have := HL0.out; omega
        go_wp2_with (fail)
        refine (refWithin_is hin.out).mono ?_
        rintro e _ ⟨rfl, rfl⟩
        go_wp2_with (fail)
        go_loopw [17] (fun iv wr => ∃ i : Nat, lo ≤ i ∧ i ≤ j ∧ iv = .int .i64 i ∧ Hid (∀ x, lo ≤ x → x < i → Sc.at_ h j ≤ Sc.scr (Sc.mkQ r d m f) x j (Sc.at_ h x)) ∧ ∃ q, wr = w.drewN q) (fun iv _ => j - (intOf iv).toNat)
        case atStart => exact ⟨lo, Nat.le_refl _, hlo, by rw [hst]; rfl, Lib.hid (fun x h1 h2 => absurd h2 (by omega)), q, rfl⟩
        case round =>
          obtain ⟨i, hi1, hi2, rfl, HI, q2, rfl⟩ := hrel
          by_cases hij : i < j
          · have dij : decide ((i : Int) < (j : Int)) = true := by rw [decide_eq_true_eq]; omega
            have hih : (i : Int) < (h.length : Int) := by omega
            have hjh2 : (j : Int) < (h.length : Int) := by omega
            obtain ⟨b', off', e', _, hci⟩ := HAT.out i (by omega)
            injection e' with e'
            injection e' with e1 e2
            subst e1 e2
            have HBI := Lib.hid (H.out.1 i hij)
            obtain ⟨yi, hyi⟩ : ∃ y, Sc.at_ h i = y := ⟨_, rfl⟩
            rw [hyi] at hci HBI
            have HYI := Lib.hid hyi
            clear hyi
            have HSC := Lib.hid (fun W (hV : IsInts W (.slice A r.length c) r) (hU : IsInts W (.slice A2 d.length c2) d) => refScreen_any (.slice A r.length c) (.slice A2 d.length c2) (Sc.mkQ r d m f) i j yi W hV hU HQ.out hij hlt HBI.out.1 (by have := HBI.out.2; omega))
            obtain ⟨s, hs⟩ : ∃ s, Sc.scr (Sc.mkQ r d m f) i j yi = s := ⟨_, rfl⟩
            rw [hs] at HSC
            have HSS := Lib.hid hs
            clear hs
            by_cases hys : s < y
            · have dys : decide (s < y) = true := decide_eq_true hys
              have HA := Lib.hid (show aB r d m f ends h = false by
                rw [HG.out]
                refine acc_no4 (j := j) hlt (row_no (i := i) (by rw [HLO.out]; exact hi1) hij ?_)
                rw [HY.out, HYI.out, HSS.out]; omega)
              clear hys
              go_wp2_with (fail)
              go_quiet ((go_at_call 38; exact quiet_q (HSC.out _ HV.out HU.out)))
              go_wp2_with (fail)
              go_ret2
              exact ⟨by rw [HA.out, HE.out]; rfl, below_drewN (below_drewN (Below.refl _ w) _) _⟩
            · have dys : decide (s < y) = false := decide_eq_false hys
              have HI2 := Lib.hid (show ∀ x, lo ≤ x → x < i + 1 → Sc.at_ h j ≤ Sc.scr (Sc.mkQ r d m f) x j (Sc.at_ h x) from fun x h1 h2 => by
                by_cases hx : x = i
                · subst hx; rw [HY.out, HYI.out, HSS.out]; omega
                · exact HI.out x h1 (by omega))
              clear hys
              go_wp2_with (fail)
              go_quiet ((go_at_call 38; exact quiet_q (HSC.out _ HV.out HU.out)))
              go_wp2_with (fail)
              go_roundw
              case rel => exact ⟨i + 1, by omega, by omega, by go_num, HI2, _, rfl⟩
              case measure => first | omega | (simp [intOf]; omega)
          · have dij : decide ((i : Int) < (j : Int)) = false := by rw [decide_eq_false_iff_not]; omega
            obtain rfl : i = j := by omega
            have HN2 := Lib.hid (show (∀ x, x < i + 1 → 0 ≤ Sc.at_ h x ∧ Sc.at_ h x ≤ 4398046511104) ∧ ∀ x, x < i + 1 → Sc.rowB (Sc.mkQ r d m f) h x = true from by
              refine ⟨fun x hx => ?_, fun x hx => ?_⟩
              · by_cases hxi : x = i
                · subst hxi; rw [HY.out]; exact HIN.out
                · exact H.out.1 x (by omega)
              · by_cases hxi : x = i
                · subst hxi; exact row_yes (fun x' h1 h2 => HI.out x' (by rw [← HLO.out]; exact h1) h2)
                · exact H.out.2 x (by omega))
            go_wp2_with (fail)
            go_roundw
            case rel => exact ⟨i + 1, by omega, by go_num, HN2, _, rfl⟩
            case measure => first | omega | (simp [intOf]; omega)
    · have dj : decide ((j : Int) ≤ (r.length : Int)) = false := by rw [decide_eq_false_iff_not]; omega
      obtain ⟨b, off, e4, _, hc⟩ := at_cell HR4.out (k := r.length) (by have := HHL.out; omega)
      subst e4
      have hnh : (r.length : Int) < (h.length : Int) := by have := HHL.out; omega
      obtain ⟨es, hes, hgr⟩ := Sc.grpI_nat (m := (Sc.mkQ r d m f).m) (n := r.length) (i := 0) (l := ends) (by rw [HM.out]; exact hg.out)
      have HD := Lib.hid (fun W (hW : IsInts W (.slice A3 ends.length c3) ends) (hV : IsInts W (.slice A r.length c) r) (hU : IsInts W (.slice A2 d.length c2) d) => done_any (.slice A r.length c) (.slice A2 d.length c2) (.slice A3 ends.length c3) (Sc.mkQ r d m f) es W hV hU (by rw [← hes]; exact hW) HQ.out hgr)
      have HA := Lib.hid (show aB r d m f ends h = (Sc.at_ h r.length == Sc.doneAt (Sc.mkQ r d m f) 0 0 es) by
        rw [HG.out, acc_last (q := Sc.mkQ r d m f) HHL.out (fun x hx => H.out.1 x (by have := HHL.out; omega)) (by rw [HM.out]; exact hg.out) (fun x hx => H.out.2 x (by have : x ≤ r.length := hx; omega))]
        rw [hes]
        rw [show Sc.doneI (Sc.mkQ r d m f) 0 0 (Sc.toI es) = _ from Sc.doneI_map _ 0 0 es]
        rfl)
      generalize Sc.doneAt (Sc.mkQ r d m f) 0 0 es = dn at *
      generalize Sc.at_ h r.length = hn at *
      clear hgr
      replace hes := Lib.hid hes
      go_wp2_with (fail)
      go_quiet ((go_at_call 20; exact quiet_q (HD.out _ HZ.out HV.out HU.out)))
      go_wp2_with (fail)
      go_ret2
      exact ⟨by rw [HA.out, HE.out]; rfl, below_drewN (below_drewN (Below.refl _ w) _) _⟩
end Go.Proofs.Ytchjjcmlekknfaa

/- Walk of the statement PortionsMore. -/
import Derived.Test.YtagbdjdphghflaaL2
namespace Go.Proofs.Ytagbdjdphghflaa
open Go.RowKit

def lts (l xs : List Int) : Bool := (l.zip xs).any (fun p => decide (p.1 < p.2))

theorem lts_take (l xs : List Int) (k : Nat) (h1 : k < l.length) (h2 : k < xs.length) : lts (l.take (k + 1)) (xs.take (k + 1)) = (lts (l.take k) (xs.take k) || decide (l[k] < xs[k])) := by
  unfold lts
  rw [List.take_succ_eq_append_getElem h1, List.take_succ_eq_append_getElem h2, List.zip_append (by simp; omega), List.any_append]
  simp

/-- what is known of the two divisions -/
structure More (c : Int) (xs l m : List Int) : Prop where
  len1 : l.length = xs.length
  len2 : m.length = xs.length
  mono : ∀ i (h1 : i < l.length) (h2 : i < m.length), l[i] ≤ m[i]
  bd1 : ∀ x ∈ l, 0 ≤ x ∧ x ≤ 1099511627777
  bd2 : ∀ x ∈ m, 0 ≤ x ∧ x ≤ 1099511627777
  yes : lts l xs = true → Pl.total m - Pl.total l = 1
  no : lts l xs = false → Pl.total m - Pl.total l = 0

theorem divide_bd (c : Int) (xs : List Int) (he : Pl.err c xs = 0) : ∀ x ∈ Pl.divide c xs, 0 ≤ x ∧ x ≤ 1099511627777 := fun x hx => by
  have H0 := err_ok he
  have HF := fair_of c xs he
  obtain ⟨i, hi, rfl⟩ := List.getElem_of_mem hx
  have hl := HF.len
  have h1 := HF.at_ i (by omega) hi
  have h2 := H0.2.2.1.2 xs[i] (List.getElem_mem (by omega))
  omega

theorem more_of (c : Int) (xs : List Int) (he : Pl.err c xs = 0) (hf : Pl.err (c + 1) xs = 0) : More c xs (Pl.divide c xs) (Pl.divide (c + 1) xs) := by
  have H0 := err_ok he
  have hd : ∀ x ∈ xs, 0 ≤ x := fun x hx => (H0.2.2.1.2 x hx).1
  have F1 := fair_of c xs he
  have F2 := fair_of (c + 1) xs hf
  have t1 := F1.all
  have t2 := F2.all
  refine ⟨F1.len, F2.len, fun i h1 h2 => Pl.divide_more c xs H0.1 hd i (by have := F1.len; omega) h1 h2, divide_bd c xs he, divide_bd _ xs hf, fun h => ?_, fun h => ?_⟩
  · unfold lts at h
    obtain ⟨p, hp, hlt⟩ := List.any_eq_true.1 h
    obtain ⟨i, hi, rfl⟩ := List.getElem_of_mem hp
    simp only [List.getElem_zip, decide_eq_true_eq] at hlt
    rw [List.length_zip] at hi
    have := Pl.total_gt _ _ F1.len (fun i h1 h2 => (F1.at_ i h2 h1).2.1) i (by omega) (by omega) hlt
    omega
  · have := Pl.total_eq_of_not _ _ F1.len (fun i h1 h2 => by
      have h3 := (F1.at_ i h2 h1).2.1
      rcases Int.lt_or_le (Pl.divide c xs)[i] xs[i] with h4 | h4
      · exfalso
        have : lts (Pl.divide c xs) xs = true := by
          unfold lts
          refine List.any_eq_true.2 ⟨((Pl.divide c xs)[i], xs[i]), ?_, by simpa using h4⟩
          have hz : ((Pl.divide c xs).zip xs)[i]'(by rw [List.length_zip]; omega) = ((Pl.divide c xs)[i], xs[i]) := List.getElem_zip ..
          rw [← hz]
          exact List.getElem_mem _
        rw [h] at this; cases this
      · omega)
    omega

set_option maxHeartbeats 2000000 in
set_option maxRecDepth 100000 in
theorem PortionsMore_any (c : Int) (v : Value) (xs : List Int) (w : World) (hv : IsInts w v xs) (hl : xs.length ≤ 9223372036854775807) :
    Calls Try.prog 6 #[.int .i64 c, v] w fun e w' => e = .returned (.bool true) ∧ Below w.heap.size w w' := by
  have HV := Lib.hid hv
  obtain ⟨A, cap, rfl, hr⟩ := hv
  clear hr
  by_cases he : Pl.err c xs = 0
  · have HE := Lib.hid he
    have H0 := err_ok he
    have h32 := H0.2.2.2
    have hc0 := H0.1
    have hc1 := H0.2.1
    clear H0
    by_cases hf : Pl.err (c + 1) xs = 0
    · have HF := Lib.hid hf
      have HM := Lib.hid (more_of c xs he hf)
      clear he hf
      obtain ⟨dl, hdle⟩ : ∃ dl, Pl.divide c xs = dl := ⟨_, rfl⟩
      obtain ⟨dm, hdme⟩ : ∃ dm, Pl.divide (c + 1) xs = dm := ⟨_, rfl⟩
      rw [hdle, hdme] at HM
      have HDE := Lib.hid hdle
      have HDM := Lib.hid hdme
      clear hdle hdme
      go_enter Try.func6, Try.ntmps6
      go_wp2_with (fail)
      refine (sane_any _).mono ?_
      rintro e w1 ⟨rfl, hb1⟩
      go_wp2_with (fail)
      refine (divided_yes c _ xs _ (HV.out.below hb1) hl HE.out).mono ?_
      rintro e w2 ⟨⟨x, rfl, hx⟩, hb2⟩
      rw [HDE.out] at hx
      have HX := Lib.hid hx
      obtain ⟨A3, cap3, rfl, hr3⟩ := hx
      have hw2 := hb1.up hb2
      clear hb1 hb2 hr3
      go_wp2_with (fail)
      refine (divided_yes (c + 1) _ xs _ (HV.out.below hw2) hl HF.out).mono ?_
      rintro e w3 ⟨⟨y, rfl, hy⟩, hb3⟩
      rw [HDM.out] at hy
      obtain ⟨A4, cap4, rfl, hr4⟩ := hy
      have HW := Lib.hid (hw2.up hb3)
      obtain ⟨A', cap', hA', hr'⟩ := HV.out.below (hw2.up hb3)
      cases hA'
      obtain ⟨A5, cap5, hA5, hr5⟩ := HX.out.below hb3
      cases hA5
      have HR := Lib.hid hr'
      have HR3 := Lib.hid hr5
      have HR4 := Lib.hid hr4
      clear hr' hr4 hr5 hw2 hb3
      go_wp2_with (fail)
      go_loopw [10, 11, 47] (fun s b i wr => ∃ k : Nat, k ≤ xs.length ∧ i = .int .i64 k ∧ s = .int .i64 (Pl.total (dm.take k) - Pl.total (dl.take k)) ∧ b = .bool (lts (dl.take k) (xs.take k)) ∧ ∃ q, wr = w3.drewN q) (fun _ _ i _ => xs.length - (intOf i).toNat)
      case atStart => exact ⟨0, Nat.zero_le _, rfl, rfl, rfl, 0, rfl⟩
      case round =>
        obtain ⟨k, hk, rfl, rfl, rfl, q, rfl⟩ := hrel
        have hb1 := total_take_bd dl HM.out.bd1 (by have := HM.out.len1; omega) k
        have hb2 := total_take_bd dm HM.out.bd2 (by have := HM.out.len2; omega) k
        by_cases hlt : k < xs.length
        · have hk1 : k < dl.length := by have := HM.out.len1; omega
          have hk2 : k < dm.length := by have := HM.out.len2; omega
          obtain ⟨b, off, rfl, _, hc⟩ := ints_at HR.out hlt
          obtain ⟨b2, off2, rfl, _, hc2⟩ := ints_at HR3.out hk1
          obtain ⟨b3, off3, rfl, _, hc3⟩ := ints_at HR4.out hk2
          have f1 := HM.out.mono k hk1 hk2
          have f2 := HM.out.bd1 dl[k] (List.getElem_mem hk1)
          have f3 := HM.out.bd2 dm[k] (List.getElem_mem hk2)
          have H1 := Lib.hid (total_take dl k hk1)
          have H2 := Lib.hid (total_take dm k hk2)
          have H3 := Lib.hid (lts_take dl xs k hk1 hlt)
          generalize dl[k] = d at hc2 f1 f2 H1 H3
          generalize dm[k] = m at hc3 f1 f3 H2
          generalize xs[k] = x at hc H3
          generalize Pl.total (dl.take k) = t1 at hb1 H1 ⊢
          generalize Pl.total (dm.take k) = t2 at hb2 H2 ⊢
          generalize lts (dl.take k) (xs.take k) = bb at H3 ⊢
          cases bb
          all_goals
            go_wp2
            go_quiet (fail)
            go_wp2
            go_quiet (fail)
            go_wp2
            go_roundw
            case rel => exact ⟨k + 1, by omega, by go_num, by rw [H1.out, H2.out]; congr 1; omega, by rw [H3.out]; rfl, _, rfl⟩
            case measure => first | omega | (simp [intOf]; omega)
        · have e1 : dl.take k = dl := List.take_of_length_le (by have := HM.out.len1; omega)
          have e2 : xs.take k = xs := List.take_of_length_le (by omega)
          have e3 : dm.take k = dm := List.take_of_length_le (by have := HM.out.len2; omega)
          rw [e1] at hb1 ⊢
          rw [e3] at hb2 ⊢
          rw [e2]
          clear e1 e2 e3
          have HY := Lib.hid HM.out.yes
          have HN := Lib.hid HM.out.no
          generalize Pl.total dm - Pl.total dl = t at HY HN ⊢
          generalize lts dl xs = bb at HY HN ⊢
          cases bb
          · have hq : (t == 0) = true := by simpa using HN.out rfl
            go_wp2
            go_ret
            exact ⟨rfl, below_drewN HW.out _⟩
          · have hq : (t == 1) = true := by simpa using HY.out rfl
            go_wp2
            go_ret
            exact ⟨rfl, below_drewN HW.out _⟩
    · clear he
      go_enter Try.func6, Try.ntmps6
      go_wp2_with (fail)
      refine (sane_any _).mono ?_
      rintro e w1 ⟨rfl, hb1⟩
      go_wp2_with (fail)
      refine (divided_yes c _ xs _ (HV.out.below hb1) hl HE.out).mono ?_
      rintro e w2 ⟨⟨x, rfl, hx⟩, hb2⟩
      obtain ⟨A3, cap3, rfl, hr3⟩ := hx
      have hw2 := hb1.up hb2
      clear hb1 hb2 hr3
      go_wp2_with (fail)
      refine (divided_no (c + 1) _ xs _ (HV.out.below hw2) hl hf).mono ?_
      rintro e w3 ⟨rfl, hb3⟩
      go_wp2_with (fail)
      go_ret
      exact ⟨rfl, hw2.up hb3⟩
  · go_enter Try.func6, Try.ntmps6
    go_wp2_with (fail)
    refine (sane_any _).mono ?_
    rintro e w1 ⟨rfl, hb1⟩
    go_wp2_with (fail)
    refine (divided_no c _ xs _ (HV.out.below hb1) hl he).mono ?_
    rintro e w2 ⟨rfl, hb2⟩
    go_wp2_with (fail)
    go_ret
    exact ⟨rfl, hb1.up hb2⟩

end Go.Proofs.Ytagbdjdphghflaa

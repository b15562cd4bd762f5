/- Walk of check. -/
import Derived.Test.YtofllhbcediafaaW1
import Derived.Test.YtofllhbcediafaaPlain1
namespace Go.Proofs.Ytofllhbcediafaa
open Go.RowKit
set_option linter.unusedVariables false

set_option maxHeartbeats 400000 in
theorem long_any (v : Value) (x : List Pl.Life) (w : World) (hv : IsLives w v x) :
    Calls Try.prog 32 #[v] w fun e w' => e = .returned (.bool (Pl.long x)) ∧ w = w' := by
  obtain ⟨A, c, rfl, _⟩ := hv
  unfold Pl.long
  by_cases h : 16 < x.length
  all_goals
    go_enter Try.func32, Try.ntmps32
    go_wp2
    go_ret
    exact ⟨ret_bool (by simp [h]; omega), rfl⟩

set_option maxHeartbeats 400000 in
theorem indexFunc_any (v : Value) (l : List (List Pl.Life)) (w : World) (hv : IsWords w v l) (hl : l.length ≤ 9223372036854775807) :
    Calls Try.prog 37 #[v, .func (.func 32) #[] #[]] w fun e w' => (∃ r : Int, e = .returned (.int .i64 r) ∧ decide (0 ≤ r) = l.any Pl.long) ∧ w = w' := by
  obtain ⟨A, cap, vs, rfl, hlen, hr, hvs⟩ := hv
  have HR := Lib.hid hr
  have HVS := Lib.hid hvs
  have HLEN := Lib.hid hlen
  clear hr hvs hlen
  go_enter Try.func37, Try.ntmps37
  go_wp2
  go_loop [8] (fun i => ∃ k : Nat, k ≤ l.length ∧ i = .int .i64 k ∧ Hid ((l.take k).any Pl.long = false)) (fun i => l.length - (intOf i).toNat)
  case atStart => exact ⟨0, Nat.zero_le _, rfl, rfl⟩
  case round =>
    obtain ⟨k, hk, rfl, H⟩ := hrel
    by_cases hlt : k < l.length
    · obtain ⟨b, off, A', c', rfl, _, hc, hr'⟩ := words_at HLEN.out HR.out HVS.out hlt
      have HX := Lib.hid (show IsLives w (.slice A' l[k].length c') l[k] from ⟨_, _, rfl, hr'⟩)
      clear hr'
      cases ho : Pl.long l[k]
      · go_wp2_with (go_at_call 32; refine (long_any _ l[k] _ HX.out).mono ?_; rintro e w' ⟨rfl, rfl⟩)
        go_round
        case rel => exact ⟨k + 1, by omega, by go_num, by show (l.take (k + 1)).any Pl.long = false; rw [List.take_succ_eq_append_getElem hlt, List.any_append, H.out]; simp [ho]⟩
        case measure => simp [intOf]; omega
      · go_wp2_with (go_at_call 32; refine (long_any _ l[k] _ HX.out).mono ?_; rintro e w' ⟨rfl, rfl⟩)
        go_ret
        refine ⟨⟨_, rfl, ?_⟩, rfl⟩
        have : l.any Pl.long = true := List.any_eq_true.2 ⟨l[k], List.getElem_mem hlt, ho⟩
        rw [this]; simp
    · go_wp2
      go_ret
      refine ⟨⟨_, rfl, ?_⟩, rfl⟩
      have := H.out
      rw [List.take_of_length_le (by omega)] at this
      rw [this]; simp

set_option maxHeartbeats 400000 in
theorem containsFunc_any (v : Value) (l : List (List Pl.Life)) (w : World) (hv : IsWords w v l) (hl : l.length ≤ 9223372036854775807) :
    Calls Try.prog 33 #[v, .func (.func 32) #[] #[]] w fun e w' => e = .returned (.bool (l.any Pl.long)) ∧ w = w' := by
  have HV := Lib.hid hv
  obtain ⟨A, cap, vs, rfl, hlen, hr, hvs⟩ := hv
  clear hr hvs hlen
  go_enter Try.func33, Try.ntmps33
  go_wp2_with (go_at_call 37; refine (indexFunc_any _ l _ HV.out hl).mono ?_; rintro e w' ⟨⟨r, rfl, hr⟩, rfl⟩; have HRr := Lib.hid hr; clear hr)
  go_ret
  exact ⟨ret_bool HRr.out, rfl⟩

theorem err_word {l : List (List Pl.Life)} {ds : List Int} (h1 : l.length ≤ 1024) (h2 : l.any Pl.long = false) (h3 : ds.length = l.length) (k : Nat) (h : k < l.length) (h' : k < ds.length) (hw : Pl.wordOk l[k] ds[k] = false) : Pl.err l ds = 500 := by
  have := Pl.allOk_false l ds k h h' hw
  unfold Pl.err
  rw [if_neg (by simp [h2]; omega), if_pos h3, if_neg (by simp [this])]

theorem len16 {l : List (List Pl.Life)} (h : l.any Pl.long = false) {k : Nat} (hk : k < l.length) : l[k].length ≤ 16 := by
  rw [List.any_eq_false] at h
  have := h l[k] (List.getElem_mem hk)
  simp [Pl.long] at this
  exact this
theorem endE_500 {x : Int} (h : x = 500) : endE x = .panicked (bad 500) := by subst h; rfl
theorem endE_0 {x : Int} (h : x = 0) : endE x = .returned (.tuple #[]) := by subst h; rfl

set_option maxHeartbeats 2000000 in
set_option maxRecDepth 100000 in
theorem check_any (v u : Value) (l : List (List Pl.Life)) (ds : List Int) (w : World) (hv : IsWords w v l) (hu : IsInts w u ds) (hl : l.length ≤ 9223372036854775807) (_hl2 : ds.length ≤ 9223372036854775807) :
    Calls Try.prog 24 #[v, u] w fun e w' => e = endE (Pl.err l ds) ∧ Below w.heap.size w w' := by
  have HV := Lib.hid hv
  have HU := Lib.hid hu
  obtain ⟨A, cap, vs, rfl, hlen, hr, hvs⟩ := hv
  obtain ⟨A2, cap2, rfl, hr2⟩ := hu
  have HLEN := Lib.hid hlen
  clear hr hvs hlen hr2
  by_cases h1 : 1024 < l.length
  · have HE := Lib.hid (show endE (Pl.err l ds) = .panicked (bad 2) by simp [Pl.err, h1, endE])
    go_enter Try.func24, Try.ntmps24
    go_wp2_with (go_at_call 29; refine (need_no _ _).mono ?_; rintro e w' ⟨rfl, rfl⟩)
    exact ⟨rfl, HE.out.symm, Below.refl _ _⟩
  · cases h2 : l.any Pl.long
    · by_cases h3 : ds.length = l.length
      · have h3b : ((ds.length : Int) == (l.length : Int)) = true := by simp [h3]
        have H3 := Lib.hid h3
        have H2 := Lib.hid h2
        have hd1 : ds.length ≤ l.length := by omega
        have hd2 : l.length ≤ ds.length := by omega
        clear h3 h2
        go_enter Try.func24, Try.ntmps24
        go_wp2_with (fail)
        refine (containsFunc_any _ l _ HV.out hl).mono ?_
        rintro e w' ⟨rfl, rfl⟩
        rw [H2.out]
        go_wp2_with (fail)
        refine (need_yes _ _).mono ?_
        rintro e w' ⟨rfl, rfl⟩
        go_wp2_with (fail)
        refine (need_yes _ _).mono ?_
        rintro e w' ⟨rfl, rfl⟩
        go_wp2_with (fail)
        go_loopw [28] (fun i wr => ∃ k : Nat, k ≤ l.length ∧ i = .int .i64 k ∧ Hid (Pl.allOk (l.take k) ds = true) ∧ Below w.heap.size w wr) (fun i _ => l.length - (intOf i).toNat)
        case atStart => exact ⟨0, Nat.zero_le _, rfl, rfl, Below.refl _ _⟩
        case round =>
          obtain ⟨k, hk, rfl, H, hbw⟩ := hrel
          by_cases hlt : k < l.length
          · have hkd : k < ds.length := by omega
            obtain ⟨A', cap', vs', hA', hlen', hr', hvs'⟩ := HV.out.below hbw
            cases hA'
            obtain ⟨b, off, A3, c3, rfl, _, hc, hr3⟩ := words_at hlen' hr' hvs' hlt
            obtain ⟨A4, cap4, hA4, hr4⟩ := HU.out.below hbw
            cases hA4
            obtain ⟨b2, off2, rfl, _, hc2⟩ := ints_at hr4 hkd
            have HW := Lib.hid (fun hw => err_word (l := l) (ds := ds) (by omega) H2.out H3.out k hlt hkd hw)
            have HT := Lib.hid (Pl.allOk_take l ds k hlt hkd)
            have HR3 := Lib.hid hr3
            have hx16 := len16 H2.out hlt
            generalize l[k] = x at hc HR3 HW HT hx16
            generalize ds[k] = d at hc2 HW HT
            clear hr' hvs' hr4 hr3
            by_cases g1 : 0 < x.length
            · by_cases g2 : 0 ≤ d
              · by_cases g3 : d < 1099511627776
                · obtain ⟨b3, off3, rfl, _, hc31, hc32⟩ := lives_at HR3.out g1
                  simp only [Nat.zero_mul, Nat.add_zero] at hc31 hc32
                  have HB0 := Lib.hid (Pl.born_eq x g1)
                  rw [← Pl.born_eq x g1] at hc31
                  obtain ⟨wo, rfl⟩ : ∃ wo : World, wo = wr := ⟨_, rfl⟩
                  go_wp2_with (fail)
                  refine (need_yes _ _).mono ?_
                  rintro e w' ⟨rfl, rfl⟩
                  go_wp2_with (fail)
                  go_loopw [7, 57] (fun la i wr => ∃ j : Nat, j ≤ x.length ∧ i = .int .i64 j ∧ la = .int .i64 (Pl.lastL (Pl.born x) (x.take j)) ∧ Hid (Pl.chain (Pl.born x) (x.take j) = true) ∧ Below w.heap.size w wr ∧ Below wo.heap.size wo wr) (fun _ i _ => x.length - (intOf i).toNat)
                  case atStart => exact ⟨0, Nat.zero_le _, rfl, rfl, rfl, hbw, Below.refl _ _⟩
                  case round =>
                    obtain ⟨j, hj0, rfl, rfl, HC, hbw2, hbo⟩ := hrel
                    by_cases hj : j < x.length
                    · obtain ⟨b5, off5, h5, _, hd1, hd2⟩ := lives_at (HR3.out.below hbo) hj
                      cases h5
                      have H1 := Lib.hid (Pl.chain_step (Pl.born x) x j hj)
                      have H2' := Lib.hid (Pl.lastL_step (Pl.born x) x j hj)
                      have HW2 := Lib.hid (fun hs => endE_500 (HW.out (Pl.wordOk_no x d j hj hs)))
                      generalize x[j] = y at hd1 hd2 H1 H2' HW2
                      obtain ⟨y1, y2⟩ := y
                      simp only at hd1 hd2
                      generalize hq : Pl.lastL (Pl.born x) (x.take j) = q at H1 HW2 ⊢
                      clear hc31 hc32 hc hc2 hq
                      by_cases e1 : y1 = q
                      · have e1b : (y1 == q) = true := by simpa using e1
                        by_cases e2 : 0 ≤ y1
                        · by_cases e3 : y1 < y2
                          · by_cases e4 : y2 ≤ 1099511627776
                            · have HS := Lib.hid (show Pl.step q (y1, y2) = true by simp only [Pl.step, Bool.and_eq_true, decide_eq_true_eq]; omega)
                              clear e1
                              go_wp2_with (go_at_call 29; refine (need_yes _ _).mono ?_; rintro e w' ⟨rfl, rfl⟩)
                              go_roundw
                              case rel => exact ⟨j + 1, by omega, by go_num, by rw [H2'.out], by show _ = _; rw [H1.out, HC.out, HS.out]; rfl, hbw2.alloc hbw2.size _, hbo.alloc hbo.size _⟩
                              case measure => first | omega | (simp [intOf]; omega)
                            · have HE := Lib.hid (HW2.out (by simp [Pl.step]; omega))
                              go_wp2_with (go_at_call 29; refine (need_no _ _).mono ?_; rintro e w' ⟨rfl, rfl⟩)
                              exact ⟨rfl, HE.out.symm, hbw2.alloc hbw2.size _⟩
                          · have HE := Lib.hid (HW2.out (by simp [Pl.step]; omega))
                            go_wp2_with (go_at_call 29; refine (need_no _ _).mono ?_; rintro e w' ⟨rfl, rfl⟩)
                            exact ⟨rfl, HE.out.symm, hbw2.alloc hbw2.size _⟩
                        · have HE := Lib.hid (HW2.out (by simp [Pl.step]; omega))
                          go_wp2_with (go_at_call 29; refine (need_no _ _).mono ?_; rintro e w' ⟨rfl, rfl⟩)
                          exact ⟨rfl, HE.out.symm, hbw2.alloc hbw2.size _⟩
                      · have e1b : (y1 == q) = false := by simpa using e1
                        have HE := Lib.hid (HW2.out (by simp [Pl.step]; omega))
                        go_wp2_with (go_at_call 29; refine (need_no _ _).mono ?_; rintro e w' ⟨rfl, rfl⟩)
                        exact ⟨rfl, HE.out.symm, hbw2.alloc hbw2.size _⟩
                    · have HX := HC.out
                      rw [List.take_of_length_le (show x.length ≤ j by omega)] at HX
                      have HWO := Lib.hid (show Pl.wordOk x d = true by simp only [Pl.wordOk, HX, Bool.and_true, Bool.and_eq_true, decide_eq_true_eq]; omega)
                      clear HX
                      go_wp2_with (fail)
                      go_roundw
                      case rel => exact ⟨k + 1, by omega, by go_num, by show _ = _; rw [HT.out, H.out, HWO.out]; rfl, hbw2⟩
                      case measure => first | omega | (simp [intOf]; omega)
                · have HE := Lib.hid (endE_500 (HW.out (by simp [Pl.wordOk]; omega)))
                  go_wp2_with (go_at_call 29; refine (need_no _ _).mono ?_; rintro e w' ⟨rfl, rfl⟩)
                  exact ⟨rfl, HE.out.symm, hbw⟩
              · have HE := Lib.hid (endE_500 (HW.out (by simp [Pl.wordOk]; omega)))
                go_wp2_with (go_at_call 29; refine (need_no _ _).mono ?_; rintro e w' ⟨rfl, rfl⟩)
                exact ⟨rfl, HE.out.symm, hbw⟩
            · have HE := Lib.hid (endE_500 (HW.out (by simp [Pl.wordOk]; omega)))
              go_wp2_with (go_at_call 29; refine (need_no _ _).mono ?_; rintro e w' ⟨rfl, rfl⟩)
              exact ⟨rfl, HE.out.symm, hbw⟩
          · go_wp2_with (fail)
            go_end0
            have := H.out
            rw [List.take_of_length_le (by omega)] at this
            refine ⟨(endE_0 ?_).symm, hbw⟩
            unfold Pl.err
            rw [if_neg (by simp [H2.out]; omega), if_pos H3.out, if_pos this]
      · have h3b : ((ds.length : Int) == (l.length : Int)) = false := by simp; omega
        have HE := Lib.hid (show endE (Pl.err l ds) = .panicked (bad 500) by
          refine endE_500 ?_
          unfold Pl.err
          rw [if_neg (by simp [h2]; omega), if_neg h3])
        have H2 := Lib.hid h2
        clear h2
        go_enter Try.func24, Try.ntmps24
        go_wp2_with (fail)
        refine (containsFunc_any _ l _ HV.out hl).mono ?_
        rintro e w' ⟨rfl, rfl⟩
        rw [H2.out]
        go_wp2_with (fail)
        refine (need_yes _ _).mono ?_
        rintro e w' ⟨rfl, rfl⟩
        go_wp2_with (go_at_call 29; refine (need_no _ _).mono ?_; rintro e w' ⟨rfl, rfl⟩)
        exact ⟨rfl, HE.out.symm, Below.refl _ _⟩
    · have HE := Lib.hid (show endE (Pl.err l ds) = .panicked (bad 2) by simp [Pl.err, h2, endE])
      have H2 := Lib.hid h2
      clear h2
      go_enter Try.func24, Try.ntmps24
      go_wp2_with (fail)
      refine (containsFunc_any _ l _ HV.out hl).mono ?_
      rintro e w' ⟨rfl, rfl⟩
      rw [H2.out]
      go_wp2_with (go_at_call 29; refine (need_no _ _).mono ?_; rintro e w' ⟨rfl, rfl⟩)
      exact ⟨rfl, HE.out.symm, Below.refl _ _⟩

end Go.Proofs.Ytofllhbcediafaa

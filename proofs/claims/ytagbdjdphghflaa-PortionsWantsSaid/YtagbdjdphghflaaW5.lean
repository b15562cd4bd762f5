/- Walks of the reference's Divide, and of both Accepts. -/
import Derived.Test.YtagbdjdphghflaaW4
namespace Go.Proofs.Ytagbdjdphghflaa
open Go.RowKit

set_option maxHeartbeats 1000000 in
theorem refDivide_any (c : Int) (v : Value) (xs : List Int) (w : World) (hv : IsInts w v xs) (hl : xs.length ≤ 9223372036854775807) :
    Calls Try.prog 11 #[.int .i64 c, v] w fun e w' => (∃ u, e = .returned (.tuple #[u, .int .i64 (Pl.err c xs)]) ∧ IsInts w' u (divideR c xs)) ∧ Below w.heap.size w w' := by
  have HV := Lib.hid hv
  obtain ⟨A, cap, rfl, hr⟩ := hv
  clear hr
  by_cases he : Pl.err c xs = 0
  · have HE := Lib.hid he
    have H0 := err_ok he
    have hc0 := H0.1
    have hc1 := H0.2.1
    have HS := Lib.hid H0.2.2.1
    have h32 := H0.2.2.2
    clear he H0
    obtain ⟨i0, hi, hz0, hz1, hz2⟩ := info_parts info3
    have hlR : levelR c xs = Pl.level c xs := by simp [levelR, HE.out]
    obtain ⟨n, hn⟩ : ∃ n, Pl.level c xs = n := ⟨_, rfl⟩
    have hlv : 0 ≤ n ∧ n ≤ 1099511627776 ∧ Pl.sumMin n xs ≤ c := by
      rw [← hn]; exact level_bd c xs HS.out hc0
    obtain ⟨hn0, hn1, hn2⟩ := hlv
    have hg1 := (Pl.sumMin_bd n xs HS.out.2 hn0).1
    obtain ⟨L, hL⟩ : ∃ L : Int, c - Pl.sumMin n xs = L := ⟨_, rfl⟩
    have hLb : 0 ≤ L ∧ L ≤ 1099511627776 := by omega
    have HN := Lib.hid hn
    have HL := Lib.hid hL
    have HLR := Lib.hid hlR
    clear hn hL hlR
    go_enter Try.func11, Try.ntmps11
    go_wp2_with (fail)
    refine (refLevel_any c _ xs _ HV.out hl).mono ?_
    rintro e w1 ⟨rfl, rfl⟩
    rw [HE.out, HLR.out, HN.out]
    go_wp2_with (fail)
    refine (refGiven_any _ xs n _ HV.out HS.out hn0 (by omega)).mono ?_
    rintro e w1 ⟨rfl, rfl⟩
    go_wp2_with (fail)
    rw [HL.out]
    go_loopw [8, 9, 10] (fun lv o i wr => ∃ k : Nat, k ≤ xs.length ∧ i = .int .i64 k ∧ lv = .int .i64 (Pl.lf n L (xs.take k)) ∧ OwnInts wr w.heap.size o (Pl.dv n L (xs.take k)) ∧ Below w.heap.size w wr) (fun _ _ i _ => xs.length - (intOf i).toNat)
    case atStart => exact ⟨0, Nat.zero_le _, rfl, rfl, World.ownsRow_made w #[] 0 (Nat.le_refl _) (by unfold maxLen; omega) rfl, (Below.refl _ w).alloc (Nat.le_refl _) _⟩
    case round =>
      obtain ⟨k, hk, rfl, rfl, hown, hbw⟩ := hrel
      by_cases hlt : k < xs.length
      · obtain ⟨A', cap', hA', hr'⟩ := HV.out.below hbw
        cases hA'
        obtain ⟨b, off, rfl, _, hc⟩ := ints_at hr' hlt
        have hlen : (Pl.dv n L (xs.take k)).length = k := by rw [Pl.dv_length]; simp; omega
        have h4 := HS.out.2 xs[k] (List.getElem_mem hlt)
        have h5 := Pl.lf_bd n L (xs.take k) hLb.1
        have HT1 := Lib.hid (Pl.dv_take n L xs k hlt)
        have HT2 := Lib.hid (Pl.lf_take n L xs k hlt)
        have HLEN := Lib.hid hlen
        generalize Pl.dv n L (xs.take k) = q at hown HT1 HLEN
        generalize Pl.lf n L (xs.take k) = lft at HT1 HT2 h5 ⊢
        clear hr' hlen
        by_cases hmn : xs[k] ≤ n
        · go_wp2_with (at_builtin; refine wpList_append_own _ rfl _ _ 22 rfl w.heap.size 3 i0 (.int .i64 0) 1 8 Try.underlying22 hi hz0 hz1 hz2 rfl (by decide) _ _ _ rfl (World.ownsRow.alloc hown _) ⟨wr.heap.size, 0, none⟩ 1 1 [.int .i64 (xs[k])] rfl rfl (cell_one_new _ _ _) (by simp [Value.oneCell']) (by rw [HLEN.out]; unfold maxLen; omega) (by rw [HLEN.out]; omega) (by have := hbw.size; simp; omega) ?_; intro v' wx hown' hgrow _)
          go_roundw
          case rel => exact ⟨k + 1, by omega, by go_num, by rw [HT2.out, if_neg (by omega)], by rw [HT1.out, if_neg (by omega), show min xs[k] n = xs[k] by omega]; exact own_snoc hown', hbw.trans (((Below.refl _ wr).alloc hbw.size _).grown hgrow (by have := hbw.size; simp; omega) (fun j ej => (hown.lt j ej).1))⟩
          case measure => first | omega | (simp [intOf]; omega)
        · by_cases hlf : 0 < lft
          · go_wp2_with (at_builtin; refine wpList_append_own _ rfl _ _ 22 rfl w.heap.size 3 i0 (.int .i64 0) 1 8 Try.underlying22 hi hz0 hz1 hz2 rfl (by decide) _ _ _ rfl (World.ownsRow.alloc hown _) ⟨wr.heap.size, 0, none⟩ 1 1 [.int .i64 (n + 1)] rfl rfl (cell_one_new _ _ _) (by simp [Value.oneCell']) (by rw [HLEN.out]; unfold maxLen; omega) (by rw [HLEN.out]; omega) (by have := hbw.size; simp; omega) ?_; intro v' wx hown' hgrow _)
            go_roundw
            case rel => exact ⟨k + 1, by omega, by go_num, by rw [HT2.out, if_pos (by omega)], by rw [HT1.out, if_pos (by omega)]; exact own_snoc hown', hbw.trans (((Below.refl _ wr).alloc hbw.size _).grown hgrow (by have := hbw.size; simp; omega) (fun j ej => (hown.lt j ej).1))⟩
            case measure => first | omega | (simp [intOf]; omega)
          · go_wp2_with (at_builtin; refine wpList_append_own _ rfl _ _ 22 rfl w.heap.size 3 i0 (.int .i64 0) 1 8 Try.underlying22 hi hz0 hz1 hz2 rfl (by decide) _ _ _ rfl (World.ownsRow.alloc hown _) ⟨wr.heap.size, 0, none⟩ 1 1 [.int .i64 (n)] rfl rfl (cell_one_new _ _ _) (by simp [Value.oneCell']) (by rw [HLEN.out]; unfold maxLen; omega) (by rw [HLEN.out]; omega) (by have := hbw.size; simp; omega) ?_; intro v' wx hown' hgrow _)
            go_roundw
            case rel => exact ⟨k + 1, by omega, by go_num, by rw [HT2.out, if_neg (by omega)], by rw [HT1.out, if_neg (by omega), show min xs[k] n = n by omega]; exact own_snoc hown', hbw.trans (((Below.refl _ wr).alloc hbw.size _).grown hgrow (by have := hbw.size; simp; omega) (fun j ej => (hown.lt j ej).1))⟩
            case measure => first | omega | (simp [intOf]; omega)
      · have hkx : xs.take k = xs := List.take_of_length_le (by omega)
        rw [hkx] at hown
        clear hkx
        go_wp2_with (fail)
        go_ret2
        refine ⟨⟨u9, by rw [HE.out]; rfl, ?_⟩, hbw⟩
        have : divideR c xs = Pl.dv n L xs := by unfold divideR Pl.divide; rw [if_pos HE.out, HN.out, HL.out]
        rw [this]
        exact hown.ints
  · have hne : (Pl.err c xs != 0) = true := by simpa using he
    go_enter Try.func11, Try.ntmps11
    go_wp2_with (fail)
    refine (refLevel_any c _ xs _ HV.out hl).mono ?_
    rintro e w1 ⟨rfl, rfl⟩
    go_wp2_with (fail)
    go_ret2
    refine ⟨⟨_, rfl, ?_⟩, Below.refl _ _⟩
    unfold divideR
    rw [if_neg he]
    exact IsInts.nil

end Go.Proofs.Ytagbdjdphghflaa

/- Walk of JournalDamage. -/
import Derived.Test.YtkcnanclpkongaaOI
import Derived.Test.YtkcnanclpkongaaJP9
import Derived.Deep.CutBlock
namespace Go.Proofs.Ytkcnanclpkongaa
open Go.RowKit
set_option linter.unusedVariables false
set_option linter.unusedSimpArgs false
set_option maxRecDepth 20000

namespace Jn
theorem nsI_eq {n : Nat} (h : n ≤ 140737488351232) : nsI n = (nsec n : Int) := by
  unfold nsI nsec
  have e1 : wrap64 ((n : Int) + 112) = n + 112 := IntWalk.wrap64_in _ (by omega)
  have e2 : wrap64 ((n : Int) + 112 - 1) = n + 112 - 1 := IntWalk.wrap64_in _ (by omega)
  have e3 : ((n : Int) + 112 - 1).tdiv 112 = (n + 112 - 1) / 112 := Int.tdiv_eq_ediv_of_nonneg (by omega)
  have e4 : wrap64 (((n : Int) + 112 - 1) / 112) = (n + 112 - 1) / 112 := IntWalk.wrap64_in _ (by omega)
  rw [e1, e2, e3, e4]
  omega
theorem usI_eq {rs : List By} (h : Sm rs) : usI rs = (used rs : Int) := by
  have key : ∀ k, k ≤ rs.length → usI (rs.take k) = (used (rs.take k) : Int) := by
    intro k
    induction k with
    | zero => intro _; rfl
    | succ k ih =>
      intro hk
      have hlt : k < rs.length := by omega
      have h1 := used_le h (k := k) (by omega)
      have h2 := h.2 k hlt
      have h3 := h.nsec k hlt
      rw [usI_take hlt, ih (by omega), used_take hlt, nsI_eq (by omega), IntWalk.wrap64_in _ (by omega)]
      omega
  have := key rs.length (Nat.le_refl _)
  rwa [List.take_length] at this
theorem okI_iff {j : Jl} (h : Sm j.rs) : OkI j ↔ OkJ j := by unfold OkI OkJ; rw [usI_eq h]
theorem fits_iff {j : Jl} {b : By} (h : Sm j.rs) (hok : OkJ j) (hb : b.length ≤ 140737488351232) : fits j b ↔ (nsec b.length : Int) ≤ j.many - used j.rs := by
  unfold fits
  have h1 := hok.1
  have h2 := hok.2.1
  have h5 := hok.2.2.2.2
  rw [usI_eq h, nsI_eq hb, IntWalk.wrap64_in _ (by omega)]
theorem app_eq {j : Jl} {b : By} (h : Sm j.rs) (hok : OkJ j) (hb : b.length ≤ 140737488351232) : apE j b = appE j b ∧ apJ j b = appJ j b ∧ (fits j b → b.length ≤ 100000000) := by
  have hf := fits_iff h hok hb
  refine ⟨?_, ?_, fun hh => ?_⟩
  · unfold apE appE
    rw [if_pos ((okI_iff h).2 hok), if_pos hok]
    by_cases hh : (nsec b.length : Int) ≤ j.many - used j.rs
    · rw [if_pos hh, if_pos (hf.2 hh)]
    · rw [if_neg hh, if_neg (mt hf.1 hh)]
  · unfold apJ appJ
    rw [if_pos ((okI_iff h).2 hok), if_pos hok]
    by_cases hh : (nsec b.length : Int) ≤ j.many - used j.rs
    · rw [if_pos hh, if_pos (hf.2 hh)]
    · rw [if_neg hh, if_neg (mt hf.1 hh)]
  · have h1 := hf.1 hh
    have h2 := hok.2.1
    unfold nsec at h1
    omega
/-- where the records end -/
def cum (rs : List By) (k : Nat) : List Int := (List.range k).map fun i => (used (rs.take (i + 1)) : Int)
theorem cum_len (rs : List By) (k : Nat) : (cum rs k).length = k := by unfold cum; simp
theorem cum_succ (rs : List By) (k : Nat) : cum rs (k + 1) = cum rs k ++ [(used (rs.take (k + 1)) : Int)] := by
  unfold cum; rw [List.range_succ, List.map_append]; rfl
theorem cum_get {rs : List By} {k i : Nat} (h : i < k) : (cum rs k)[i]? = some (used (rs.take (i + 1)) : Int) := by
  unfold cum
  rw [List.getElem?_map, List.getElem?_range h]; rfl
end Jn
namespace Jn
theorem used_part : ∀ {rs : List By} {k : Nat} (h : k < rs.length), nsec rs[k].length ≤ used rs
  | b :: r, 0, _ => by simp only [used, List.getElem_cons_zero]; omega
  | b :: r, k + 1, h => by
    have := used_part (rs := r) (k := k) (by simpa using h)
    simp only [used, List.getElem_cons_succ]; omega
theorem sm_used {rs : List By} (h : used rs ≤ 4096) : Sm rs := by
  have h1 := used_ge rs
  refine ⟨by omega, fun k hk => ?_⟩
  have h2 := used_part hk
  unfold nsec at h2
  omega
end Jn
theorem JAppendL_is {v u : Value} {j r : Jl} {b : By} {w : World} {e0 : Int} {n : Nat} {m s : Int} (hv : IsJ w v j) (hsm : Jn.Sm j.rs) (hok : Jn.OkJ j) (hu : IsBytes w u b) (hbl : b.length ≤ 140737488351232) (he : Jn.appE j b = e0) (hj : Jn.appJ j b = r) (hn : r.rs.length = n) (hm : r.many = m) (hs : r.syn = s) :
    Calls Try.prog 15 #[v, u] w fun e w' => ∃ A c, e = .returned (.tuple #[.agg #[.slice A n c, .int .i64 m, .int .i64 s], .int .i64 e0]) ∧ IsJ w' (.agg #[.slice A n c, .int .i64 m, .int .i64 s]) r ∧ Below w.heap.size w w' ∧ NJ w.heap.size (.agg #[.slice A n c, .int .i64 m, .int .i64 s]) := by
  obtain ⟨h1, h2, h3⟩ := Jn.app_eq hsm hok hbl
  have hl := hsm.1
  exact JAppendI_is hv (by omega) hu h3 (h1.trans he) (h2.trans hj) hn hm hs
def sd40 : Dk := ⟨List.replicate 40 Dv.zs, [], -1, false⟩
theorem m_less {q m : Nat} (h : q < m) : m - (intOf (.int .i64 ((q : Int) + 1))).toNat < m - (intOf (.int .i64 (q : Int))).toNat := by
  show m - ((q : Int) + 1).toNat < m - ((q : Int)).toNat
  omega
set_option maxHeartbeats 16000000 in
set_option maxRecDepth 100000 in
theorem JournalDamage_any {u : Value} {rs : List By} {sec at0 by0 : Int} {w : World} (hu : IsBs w u rs) (hl : rs.length ≤ 5864062014634) (hle : ∀ k (h : k < rs.length), rs[k].length ≤ 140737488351232) (hby : 0 ≤ by0 ∧ by0 < 256) (hsec : -9223372036854775808 ≤ sec ∧ sec ≤ 9223372036854775807) (hat : -9223372036854775808 ≤ at0 ∧ at0 ≤ 9223372036854775807) :
    Calls Try.prog 7 #[u, .int .i64 sec, .int .i64 at0, .int .u8 by0] w fun e w' => e = .returned (.bool true) ∧ Below w.heap.size w w' := by
  obtain ⟨Ar, cr, _, rfl, _⟩ := id hu
  have hN := Jn.nw_eq (n := 40) (by decide) (by decide)
  have E1 := Lib.hid (show Dv.nwE 40 = 0 from hN.2)
  have E2 := Lib.hid (show Dv.nw 40 = sd40 from hN.1)
  have hO := Jn.open_ss (ss := List.replicate 40 Dv.zs) (left := -1) (Jn.ok_new (by decide) (by decide))
  rw [Jn.recs_new0] at hO
  have E3 := Lib.hid (show Jn.openE sd40 = 0 from hO.1)
  have E4 := Lib.hid (show Jn.openJ sd40 = ⟨[], 40, 0⟩ from hO.2)
  clear hN hO
  have HL := Lib.hid hl
  have HLE := Lib.hid hle
  have HL2 := Lib.hid (show rs.length ≤ 9223372036854775807 by omega)
  have HW := Lib.hid (Bl.mk (Below.refl w.heap.size w))
  have U := Lib.hid hu
  have UW := Lib.hid hu
  clear hu hle
  go_enter Try.func7, Try.ntmps7
  go_wp2_with (fail)
  refine (sane_any _).mono ?_
  rintro e w1 ⟨rfl, hb⟩
  replace HW := Lib.hid (HW.out.upb hb)
  replace U := Lib.hid (U.out.upb hb)
  clear hb
  go_wp2_with (fail)
  refine (New_is (n := 40) E1.out E2.out).mono ?_
  rintro e w2 ⟨A9, c9, B9, k9, rfl, hd, hb⟩
  replace HW := Lib.hid (HW.out.upb hb)
  replace U := Lib.hid (U.out.upb hb)
  clear hb
  have F9 := Lib.hid hd
  clear hd
  obtain ⟨sd, hsd⟩ : ∃ d, sd40 = d := ⟨_, rfl⟩
  have HSD := Lib.hid hsd
  rw [hsd] at F9 E3 E4
  simp only [hsd]
  clear hsd E1 E2
  go_wp2_with (fail)
  replace HW := Lib.hid (HW.out.upb (al1 (w2) (.cells #[.slice A9 sd.ss.length c9, .slice B9 sd.ps.length k9, .int .i64 sd.left, .bool sd.st] 25)))
  replace U := Lib.hid (U.out.upb (al1 (w2) (.cells #[.slice A9 sd.ss.length c9, .slice B9 sd.ps.length k9, .int .i64 sd.left, .bool sd.st] 25)))
  replace F9 := Lib.hid (F9.out.upb (al1 (w2) (.cells #[.slice A9 sd.ss.length c9, .slice B9 sd.ps.length k9, .int .i64 sd.left, .bool sd.st] 25)))
  have Z9 := Lib.hid (Cells.new (w2) 25 [.slice A9 sd.ss.length c9, .slice B9 sd.ps.length k9, .int .i64 sd.left, .bool sd.st])
  have Z9l := Z9.out.lt
  have Z9c0 := Z9.out.cell (k := 0) rfl
  have Z9c1 := Z9.out.cell (k := 1) rfl
  have Z9c2 := Z9.out.cell (k := 2) rfl
  have Z9c3 := Z9.out.cell (k := 3) rfl
  try go_wp2_with (fail)
  refine (few_any F9.out U.out HL2.out (by rw [← HSD.out]; decide) (by rw [← HSD.out]; decide)).mono ?_
  rintro e w3 ⟨rfl, hb⟩
  replace HW := Lib.hid (HW.out.upb hb)
  replace U := Lib.hid (U.out.upb hb)
  replace F9 := Lib.hid (F9.out.upb hb)
  replace Z9 := Lib.hid (Z9.out.upb hb)
  clear hb
  clear Z9l Z9c0 Z9c1 Z9c2 Z9c3
  have Z9l := Z9.out.lt
  have Z9c0 := Z9.out.cell (k := 0) rfl
  have Z9c1 := Z9.out.cell (k := 1) rfl
  have Z9c2 := Z9.out.cell (k := 2) rfl
  have Z9c3 := Z9.out.cell (k := 3) rfl
  obtain ⟨fb, hfb⟩ : ∃ b, Jn.fewB sd rs = b := ⟨_, rfl⟩
  rw [hfb]
  clear hfb
  cases fb
  case false =>
    go_wp2_with (fail)
    go_ret
    exact ⟨rfl, HW.out.b⟩
  case true =>
  by_cases hr0 : rs.length = 0
  case pos =>
    have t0 : ((rs.length : Int) == 0) = true := by rw [beq_iff_eq]; omega
    have t1 : (rs.length == 0) = true := by rw [beq_iff_eq]; exact hr0
    clear hr0
    go_wp2_with (fail)
    go_ret
    exact ⟨rfl, HW.out.b⟩
  case neg =>
  have t0 : ((rs.length : Int) == 0) = false := by rw [beq_eq_false_iff_ne]; omega
  have t1 : (rs.length == 0) = false := by rw [beq_eq_false_iff_ne]; exact hr0
  clear hr0
  by_cases hb0 : by0 = 0
  case pos =>
    subst hb0
    go_wp2_with (fail)
    go_ret
    exact ⟨rfl, HW.out.b⟩
  case neg =>
  have t2 : (by0 == 0) = false := by rw [beq_eq_false_iff_ne]; exact hb0
  have HB0 := Lib.hid hb0
  clear hb0
  go_wp2_with (fail)
  clear t0 t1 t2
  refine (Open_is F9.out E3.out E4.out rfl rfl rfl).mono ?_
  rintro e w4 ⟨A11, c11, rfl, hj, hb, hnj⟩
  replace HW := Lib.hid (HW.out.upb hb)
  replace U := Lib.hid (U.out.upb hb)
  replace F9 := Lib.hid (F9.out.upb hb)
  replace Z9 := Lib.hid (Z9.out.upb hb)
  clear hb hnj
  clear Z9l Z9c0 Z9c1 Z9c2 Z9c3
  have L11 := Lib.hid hj
  clear hj
  simp only [List.length_nil]
  have Z9l := Z9.out.lt
  have Z9c0 := Z9.out.cell (k := 0) rfl
  have Z9c1 := Z9.out.cell (k := 1) rfl
  have Z9c2 := Z9.out.cell (k := 2) rfl
  have Z9c3 := Z9.out.cell (k := 3) rfl
  go_upto_block 0 with (fail)
  have F9w := F9
  have Z9w := Z9
  have HWw := HW
  replace HW := Lib.hid (HW.out.upb (al1 (w4) (.cells #[.slice A11 0 c11, .int .i64 40, .int .i64 0] 29)))
  replace U := Lib.hid (U.out.upb (al1 (w4) (.cells #[.slice A11 0 c11, .int .i64 40, .int .i64 0] 29)))
  replace F9 := Lib.hid (F9.out.upb (al1 (w4) (.cells #[.slice A11 0 c11, .int .i64 40, .int .i64 0] 29)))
  replace Z9 := Lib.hid (Z9.out.upb (al1 (w4) (.cells #[.slice A11 0 c11, .int .i64 40, .int .i64 0] 29)))
  replace L11 := Lib.hid (L11.out.upb (al1 (w4) (.cells #[.slice A11 0 c11, .int .i64 40, .int .i64 0] 29)))
  have Z11 := Lib.hid (Cells.new (w4) 29 [.slice A11 0 c11, .int .i64 40, .int .i64 0])
  clear Z9l Z9c0 Z9c1 Z9c2 Z9c3
  have HBX := Lib.hid (al1 (w4) (.cells #[.slice A11 0 c11, .int .i64 40, .int .i64 0] 29))
  generalize (w4).alloc (.cells #[.slice A11 0 c11, .int .i64 40, .int .i64 0] 29) = xq at *
  obtain ⟨wd, hwd⟩ : ∃ x, w4 = x := ⟨_, rfl⟩
  rw [hwd] at HBX F9w Z9w HWw Z11
  simp only [hwd]
  obtain ⟨B, hB⟩ : ∃ b, wd.heap.size = b := ⟨_, rfl⟩
  have HB := Lib.hid hB
  rw [hB] at Z11
  simp only [hB]
  clear hwd hB
  go_cut [13] from 60 (fun s13 wr => ∃ (k : Nat) (A13 : Option Addr) (c13 : Nat) (A11 : Option Addr) (c11 : Nat), s13 = .slice A13 k c13 ∧ k ≤ rs.length ∧ Hid (Cells wr B 29 [.slice A11 k c11, .int .i64 40, .int .i64 0]) ∧ Hid (IsJ wr (.agg #[.slice A11 k c11, .int .i64 40, .int .i64 0]) ⟨rs.take k, 40, 0⟩) ∧ Hid (OwnI wr (B + 1) (.slice A13 k c13) (Jn.cum rs k)) ∧ Hid (Jn.used (rs.take k) ≤ 40) ∧ Hid (Below wd.heap.size wd wr))
  case first =>
    have hl0 := HL.out
    go_wp2_with (fail)
    go_loopw [13, 62] (fun s13 s62 wr => ∃ (k : Nat) (A13 : Option Addr) (c13 : Nat) (A11 : Option Addr) (c11 : Nat), s13 = .slice A13 k c13 ∧ s62 = .int .i64 k ∧ k ≤ rs.length ∧ Hid (Cells wr B 29 [.slice A11 k c11, .int .i64 40, .int .i64 0]) ∧ Hid (IsJ wr (.agg #[.slice A11 k c11, .int .i64 40, .int .i64 0]) ⟨rs.take k, 40, 0⟩) ∧ Hid (OwnI wr (B + 1) (.slice A13 k c13) (Jn.cum rs k)) ∧ Hid (Jn.used (rs.take k) ≤ 40) ∧ Hid (Below wd.heap.size wd wr)) (fun _ s62 _ => rs.length - (intOf s62).toNat)
    case atStart => exact ⟨0, none, 0, A11, c11, rfl, rfl, Nat.zero_le _, Z11, L11, Lib.hid (ownI_nil _ _), Lib.hid (Nat.zero_le _), HBX⟩
    case round =>
      clear Z11 L11 HBX
      obtain ⟨k, A13, c13, A11, c11, rfl, rfl, hk, ZL, HJ, HO, HU, HBw⟩ := hrel
      by_cases hlt : k < rs.length
      case neg =>
        have hd : decide ((k : Int) < (rs.length : Int)) = false := decide_eq_false (by omega)
        have hd2 : decide (k < rs.length) = false := decide_eq_false hlt
        go_wp2_with (fail)
        go_meet
        case rel => exact ⟨k, A13, c13, A11, c11, rfl, hk, ZL, HJ, HO, HU, HBw⟩
      case pos =>
      have hd : decide ((k : Int) < (rs.length : Int)) = true := decide_eq_true (by omega)
      have hd2 : decide (k < rs.length) = true := decide_eq_true hlt
      obtain ⟨b1, o1, A15, c15, hA7, hbb1, hc1, hb1⟩ := bs_at UW.out hlt
      subst hA7
      have hbl := HLE.out k hlt
      have HTS := Lib.hid (List.take_succ_eq_append_getElem hlt)
      have HUS := Lib.hid (Jn.used_take hlt)
      obtain ⟨b, hbq⟩ : ∃ b, rs[k] = b := ⟨_, rfl⟩
      rw [hbq] at hc1 hb1 hbl HTS HUS
      have HBI := Lib.hid (hb1.upb (HWw.out.b.up HBw.out))
      have hc1w := ((HWw.out.b.up HBw.out).cell (p := ⟨b1, o1 + k, none⟩) (cell_lt hc1)).trans hc1
      have HBL := Lib.hid hbl
      have HOK := Lib.hid (show Jn.OkJ ⟨rs.take k, 40, 0⟩ from ⟨by show (1 : Int) ≤ 40; decide, by show (40 : Int) ≤ 4096; decide, by show (0 : Int) ≤ 0; decide, by show (0 : Int) ≤ ((rs.take k).length : Int); omega, by have := HU.out; simp only; omega⟩)
      have HSM := Lib.hid (show Jn.Sm (rs.take k) from Jn.sm_used (by have := HU.out; omega))
      have HTL := Lib.hid (show (rs.take k).length = k from by rw [List.length_take]; omega)
      clear hb1 hc1 hbl hbq
      have zc0 := ZL.out.cell (k := 0) rfl
      have zc1 := ZL.out.cell (k := 1) rfl
      have zc2 := ZL.out.cell (k := 2) rfl
      by_cases hfit : (Jn.nsec b.length : Int) ≤ 40 - Jn.used (rs.take k)
      case neg =>
        have HE := Lib.hid (show Jn.appE ⟨rs.take k, 40, 0⟩ b = 2 from by unfold Jn.appE; rw [if_pos HOK.out, if_neg hfit])
        have HR := Lib.hid (show Jn.appJ ⟨rs.take k, 40, 0⟩ b = j0 from by unfold Jn.appJ; rw [if_pos HOK.out, if_neg hfit])
        clear hfit
        go_wp2_with (fail)
        refine (JAppendL_is (n := 0) (m := 0) (s := 0) HJ.out HSM.out HOK.out HBI.out HBL.out HE.out HR.out rfl rfl rfl).mono ?_
        rintro e wy ⟨A16, c16, rfl, -, hb, -⟩
        clear zc0 zc1 zc2 hc1w
        have HBy := Lib.hid hb
        clear hb
        go_wp2_with (fail)
        go_meet
        case rel =>
          have h2 := HBy.out.up (al1 wy (.cells #[.slice A16 0 c16, .int .i64 0, .int .i64 0] 29))
          exact ⟨k, A13, c13, A11, c11, rfl, hk, Lib.hid (ZL.out.upb h2), Lib.hid (HJ.out.upb h2), Lib.hid (HO.out.below h2), HU, Lib.hid (HBw.out.up h2)⟩
      case pos =>
      have HE := Lib.hid (show Jn.appE ⟨rs.take k, 40, 0⟩ b = 0 from by unfold Jn.appE; rw [if_pos HOK.out, if_pos hfit])
      have HR := Lib.hid (show Jn.appJ ⟨rs.take k, 40, 0⟩ b = ⟨rs.take (k + 1), 40, 0⟩ from by unfold Jn.appJ; rw [if_pos HOK.out, if_pos hfit, HTS.out])
      have HU2 := Lib.hid (show Jn.used (rs.take (k + 1)) ≤ 40 from by rw [HUS.out]; omega)
      have hnl : b.length ≤ 4480 := by unfold Jn.nsec at hfit; omega
      clear hfit
      go_wp2_with (fail)
      refine (JAppendL_is (n := k + 1) (m := 40) (s := 0) HJ.out HSM.out HOK.out HBI.out HBL.out HE.out HR.out (by show (rs.take (k + 1)).length = k + 1; rw [List.length_take]; omega) rfl rfl).mono ?_
      rintro e wy ⟨A16, c16, rfl, hj, hb, hnj⟩
      clear zc0 zc1 zc2 hc1w
      have HBy := Lib.hid hb
      have HJ2 := Lib.hid hj
      have HNJ := Lib.hid hnj
      have HO2 := Lib.hid (HO.out.below hb)
      have ZL2 := Lib.hid (ZL.out.upb hb)
      clear hb hj hnj
      have zc0 := ZL2.out.cell (k := 0) rfl
      have zc1 := ZL2.out.cell (k := 1) rfl
      have zc2 := ZL2.out.cell (k := 2) rfl
      have zf0 := ZL2.out.frozen 0
      have zf1 := ZL2.out.frozen 1
      have zf2 := ZL2.out.frozen 2
      have zl := ZL2.out.lt
      go_upto_region 16 with (fail)
      obtain ⟨wz, hwz⟩ : ∃ x, (set3 wy B (.slice A16 (k + 1) c16) (.int .i64 40) (.int .i64 0)).alloc (.cells #[.slice A16 (k + 1) c16, .int .i64 40, .int .i64 0] 29) = x := ⟨_, rfl⟩
      have ZL3 := Lib.hid ((ZL2.out.set3 (.slice A16 (k + 1) c16) (.int .i64 40) (.int .i64 0)).upb (al1 _ (.cells #[.slice A16 (k + 1) c16, .int .i64 40, .int .i64 0] 29)))
      have hg3 := grown_set3 wy B (.slice A16 (k + 1) c16) (.int .i64 40) (.int .i64 0)
      have HO3 := Lib.hid ((HO2.out.kept (by decide) ZL2.out hg3).below (al1 _ (.cells #[.slice A16 (k + 1) c16, .int .i64 40, .int .i64 0] 29)))
      have HB3 := Lib.hid ((below_set3 (HBw.out.up HBy.out) (Nat.le_of_eq HB.out) (.slice A16 (k + 1) c16) (.int .i64 40) (.int .i64 0)).up (al1 _ (.cells #[.slice A16 (k + 1) c16, .int .i64 40, .int .i64 0] 29)))
      have HJ3 : Hid (IsJ ((set3 wy B (.slice A16 (k + 1) c16) (.int .i64 40) (.int .i64 0)).alloc (.cells #[.slice A16 (k + 1) c16, .int .i64 40, .int .i64 0] 29)) (.agg #[.slice A16 (k + 1) c16, .int .i64 40, .int .i64 0]) ⟨rs.take (k + 1), 40, 0⟩) := by
        obtain ⟨sv, e1, h1⟩ := HJ2.out
        injection e1 with e1
        injection e1 with e1
        injection e1 with e1 e2
        subst e1
        have hzl := ZL.out.lt
        exact Lib.hid (isJ_mk ((IsBs.offJ h1 (fun b' off k' c' e => by
          injection e with e e3 e4
          subst e e3 e4
          have := HNJ.out _ _ _ _ _ _ rfl
          omega) ZL2.out hg3).upb (al1 _ _)))
      have hwz' := hwz
      rw [hwz] at ZL3 HO3 HB3 HJ3
      unfold set3 at hwz'
      rw [hwz']
      clear hwz' hwz hg3 zc0 zc1 zc2 zf0 zf1 zf2 zl HBw HBy HO2 HJ2 HNJ ZL2 HO ZL HJ
      have HBS := Lib.hid (show B + 1 ≤ wz.heap.size from ZL3.out.lt)
      have HKS := Lib.hid (show k ≤ 40 from by have h1 := Jn.used_ge (rs.take k); rw [HTL.out] at h1; have := HU.out; omega)
      have HBW := Lib.hid (show wd.heap.size ≤ B + 1 from by have := HB.out; omega)
      by_cases hm : 1 < (b.length + 111) / 112
      case pos =>
        have HNS := Lib.hid (show (Jn.nsec b.length : Int) = ((b.length : Int) + 111) / 112 from by unfold Jn.nsec; omega)
        have hm1 : 1 < ((b.length : Int) + 111) / 112 := by omega
        clear hm
        by_cases hk0 : 0 < k
        case pos =>
          obtain ⟨gb, c13', e13⟩ := HO3.out.form (by intro e; have := congrArg List.length e; rw [Jn.cum_len] at this; simp at this; omega)
          rw [Jn.cum_len] at e13
          injection e13 with e13 e14 e15
          subst e13 e15
          clear e14
          have hc9 := HO3.out.cell (Jn.cum_get (rs := rs) (k := k) (i := k - 1) (by omega))
          rw [show k - 1 + 1 = k by omega] at hc9
          have hk1 : (k : Int) - 1 = ((k - 1 : Nat) : Int) := by omega
          have hk2 : k - 1 < k := by omega
          have HY := Lib.hid (show wrap64 (((b.length : Int) + 111) / 112 + (Jn.used (rs.take k) : Int)) = (Jn.used (rs.take (k + 1)) : Int) from by
            have h1 := HUS.out; have h2 := HNS.out; have h3 := HU2.out
            rw [IntWalk.wrap64_in _ (by omega)]; omega)
          have HLT := Lib.hid hlt
          clear hlt hd hd2
          go_upto_region 19 with (fail)
          clear hm1
          try simp only [HY.out]
          clear HY
          go_wp2_with (at_builtin; go_must (refine wpList_app rfl (.tmp 91) (.tmp 93) 47 _ _ rfl rfl rfl (appI_is (base := B + 1) (y := ((Jn.used (rs.take (k + 1)) : Nat) : Int)) _ (HO3.out.below (al1 wz _)) wz.heap.size (by rw [World.cell?_alloc_new]; rfl) (by simp) (by rw [Jn.cum_len]; have := HKS.out; omega) (by simp; have := HBS.out; omega)) ?_); rintro v6 w6 ⟨ho6, hg6⟩; have HO6 := Lib.hid ho6; have ZL6 := Lib.hid ((ZL3.out.upb (al1 wz _)).pushI hg6 (HO3.out.below (al1 wz _)) (by decide)); have HJ6 := Lib.hid ((HJ3.out.upb (al1 wz _)).pushI hg6 (HO3.out.below (al1 wz _))); have HB6 := Lib.hid ((HB3.out.up (al1 wz _)).grown hg6 (by have := HBS.out; have := HBW.out; simp; omega) (fun g hgv => Nat.le_trans HBW.out (HO3.out.at g hgv).1)); clear ho6 hg6; obtain ⟨A13', c13', e6⟩ := HO6.out.shape; rw [← Jn.cum_succ, Jn.cum_len] at e6; subst e6)
          rw [← Jn.cum_succ] at HO6
          exact ⟨⟨k + 1, A13', c13', A16, c16, rfl, rfl, HLT.out, ZL6, HJ6, HO6, HU2, HB6⟩, by
            have h1 := HLT.out
            show rs.length - ((k : Int) + 1).toNat < rs.length - ((k : Int)).toNat
            omega⟩
        case neg =>
          have hk3 : k = 0 := by omega
          have HY := Lib.hid (show ((b.length : Int) + 111) / 112 = (Jn.used (rs.take (k + 1)) : Int) from by
            have h1 := HUS.out; have h2 := HNS.out
            rw [show Jn.used (rs.take k) = 0 by rw [hk3]; rfl] at h1
            omega)
          clear hk3
          have HLT := Lib.hid hlt
          clear hlt hd hd2
          go_upto_region 19 with (fail)
          clear hm1
          try simp only [HY.out]
          clear HY
          go_wp2_with (at_builtin; go_must (refine wpList_app rfl (.tmp 91) (.tmp 93) 47 _ _ rfl rfl rfl (appI_is (base := B + 1) (y := ((Jn.used (rs.take (k + 1)) : Nat) : Int)) _ (HO3.out.below (al1 wz _)) wz.heap.size (by rw [World.cell?_alloc_new]; rfl) (by simp) (by rw [Jn.cum_len]; have := HKS.out; omega) (by simp; have := HBS.out; omega)) ?_); rintro v6 w6 ⟨ho6, hg6⟩; have HO6 := Lib.hid ho6; have ZL6 := Lib.hid ((ZL3.out.upb (al1 wz _)).pushI hg6 (HO3.out.below (al1 wz _)) (by decide)); have HJ6 := Lib.hid ((HJ3.out.upb (al1 wz _)).pushI hg6 (HO3.out.below (al1 wz _))); have HB6 := Lib.hid ((HB3.out.up (al1 wz _)).grown hg6 (by have := HBS.out; have := HBW.out; simp; omega) (fun g hgv => Nat.le_trans HBW.out (HO3.out.at g hgv).1)); clear ho6 hg6; obtain ⟨A13', c13', e6⟩ := HO6.out.shape; rw [← Jn.cum_succ, Jn.cum_len] at e6; subst e6)
          rw [← Jn.cum_succ] at HO6
          exact ⟨⟨k + 1, A13', c13', A16, c16, rfl, rfl, HLT.out, ZL6, HJ6, HO6, HU2, HB6⟩, by
            have h1 := HLT.out
            show rs.length - ((k : Int) + 1).toNat < rs.length - ((k : Int)).toNat
            omega⟩
      case neg =>
        have HNS := Lib.hid (show (Jn.nsec b.length : Int) = 1 from by unfold Jn.nsec; omega)
        have hm1 : ((b.length : Int) + 111) / 112 ≤ 1 := by omega
        clear hm
        by_cases hk0 : 0 < k
        case pos =>
          obtain ⟨gb, c13', e13⟩ := HO3.out.form (by intro e; have := congrArg List.length e; rw [Jn.cum_len] at this; simp at this; omega)
          rw [Jn.cum_len] at e13
          injection e13 with e13 e14 e15
          subst e13 e15
          clear e14
          have hc9 := HO3.out.cell (Jn.cum_get (rs := rs) (k := k) (i := k - 1) (by omega))
          rw [show k - 1 + 1 = k by omega] at hc9
          have hk1 : (k : Int) - 1 = ((k - 1 : Nat) : Int) := by omega
          have hk2 : k - 1 < k := by omega
          have HY := Lib.hid (show wrap64 ((1 : Int) + (Jn.used (rs.take k) : Int)) = (Jn.used (rs.take (k + 1)) : Int) from by
            have h1 := HUS.out; have h2 := HNS.out; have h3 := HU2.out
            rw [IntWalk.wrap64_in _ (by omega)]; omega)
          have HLT := Lib.hid hlt
          clear hlt hd hd2
          go_upto_region 19 with (fail)
          clear hm1
          try simp only [HY.out]
          clear HY
          go_wp2_with (at_builtin; go_must (refine wpList_app rfl (.tmp 91) (.tmp 93) 47 _ _ rfl rfl rfl (appI_is (base := B + 1) (y := ((Jn.used (rs.take (k + 1)) : Nat) : Int)) _ (HO3.out.below (al1 wz _)) wz.heap.size (by rw [World.cell?_alloc_new]; rfl) (by simp) (by rw [Jn.cum_len]; have := HKS.out; omega) (by simp; have := HBS.out; omega)) ?_); rintro v6 w6 ⟨ho6, hg6⟩; have HO6 := Lib.hid ho6; have ZL6 := Lib.hid ((ZL3.out.upb (al1 wz _)).pushI hg6 (HO3.out.below (al1 wz _)) (by decide)); have HJ6 := Lib.hid ((HJ3.out.upb (al1 wz _)).pushI hg6 (HO3.out.below (al1 wz _))); have HB6 := Lib.hid ((HB3.out.up (al1 wz _)).grown hg6 (by have := HBS.out; have := HBW.out; simp; omega) (fun g hgv => Nat.le_trans HBW.out (HO3.out.at g hgv).1)); clear ho6 hg6; obtain ⟨A13', c13', e6⟩ := HO6.out.shape; rw [← Jn.cum_succ, Jn.cum_len] at e6; subst e6)
          rw [← Jn.cum_succ] at HO6
          exact ⟨⟨k + 1, A13', c13', A16, c16, rfl, rfl, HLT.out, ZL6, HJ6, HO6, HU2, HB6⟩, by
            have h1 := HLT.out
            show rs.length - ((k : Int) + 1).toNat < rs.length - ((k : Int)).toNat
            omega⟩
        case neg =>
          have hk3 : k = 0 := by omega
          have HY := Lib.hid (show (1 : Int) = (Jn.used (rs.take (k + 1)) : Int) from by
            have h1 := HUS.out; have h2 := HNS.out
            rw [show Jn.used (rs.take k) = 0 by rw [hk3]; rfl] at h1
            omega)
          clear hk3
          have HLT := Lib.hid hlt
          clear hlt hd hd2
          go_upto_region 19 with (fail)
          clear hm1
          simp only [HY.out]
          clear HY
          go_wp2_with (at_builtin; go_must (refine wpList_app rfl (.tmp 91) (.tmp 93) 47 _ _ rfl rfl rfl (appI_is (base := B + 1) (y := ((Jn.used (rs.take (k + 1)) : Nat) : Int)) _ (HO3.out.below (al1 wz _)) wz.heap.size (by rw [World.cell?_alloc_new]; rfl) (by simp) (by rw [Jn.cum_len]; have := HKS.out; omega) (by simp; have := HBS.out; omega)) ?_); rintro v6 w6 ⟨ho6, hg6⟩; have HO6 := Lib.hid ho6; have ZL6 := Lib.hid ((ZL3.out.upb (al1 wz _)).pushI hg6 (HO3.out.below (al1 wz _)) (by decide)); have HJ6 := Lib.hid ((HJ3.out.upb (al1 wz _)).pushI hg6 (HO3.out.below (al1 wz _))); have HB6 := Lib.hid ((HB3.out.up (al1 wz _)).grown hg6 (by have := HBS.out; have := HBW.out; simp; omega) (fun g hgv => Nat.le_trans HBW.out (HO3.out.at g hgv).1)); clear ho6 hg6; obtain ⟨A13', c13', e6⟩ := HO6.out.shape; rw [← Jn.cum_succ, Jn.cum_len] at e6; subst e6)
          rw [← Jn.cum_succ] at HO6
          exact ⟨⟨k + 1, A13', c13', A16, c16, rfl, rfl, HLT.out, ZL6, HJ6, HO6, HU2, HB6⟩, by
            have h1 := HLT.out
            show rs.length - ((k : Int) + 1).toNat < rs.length - ((k : Int)).toNat
            omega⟩
  case rest =>
  obtain ⟨k, A13, c13, A11, c11, rfl, hk, ZL, HJ, HO, HU, HBw⟩ := hcut
  clear Z11 L11 HBX HW U F9 Z9
  have HW := Lib.hid (HWw.out.upb HBw.out)
  have F9 := Lib.hid (F9w.out.upb HBw.out)
  have Z9 := Lib.hid (Z9w.out.upb HBw.out)
  clear HBw HWw F9w Z9w
  have HSM := Lib.hid (Jn.sm_used (rs := rs.take k) (by have := HU.out; omega))
  have HKL := Lib.hid (show (rs.take k).length = k from by rw [List.length_take]; omega)
  by_cases hk0 : k = 0
  case pos =>
    subst hk0
    obtain ⟨q1, q2, q3⟩ := Jn.dmg0 (n := 40) (by decide) (by decide)
    have ZLl := ZL.out.lt
    have ZLc0 := ZL.out.cell (k := 0) rfl
    have ZLc1 := ZL.out.cell (k := 1) rfl
    have ZLc2 := ZL.out.cell (k := 2) rfl
    have Z9l := Z9.out.lt
    have Z9c0 := Z9.out.cell (k := 0) rfl
    have Z9c1 := Z9.out.cell (k := 1) rfl
    have Z9c2 := Z9.out.cell (k := 2) rfl
    have Z9c3 := Z9.out.cell (k := 3) rfl
    have Q1 := Lib.hid (show Jn.syncE ⟨rs.take 0, 40, 0⟩ sd = 0 from by rw [← HSD.out]; exact q1)
    have Q2 := Lib.hid (show Jn.syncJ ⟨rs.take 0, 40, 0⟩ sd = ⟨[], 40, 0⟩ from by rw [← HSD.out]; exact q2)
    have Q3 := Lib.hid (show Jn.syncD ⟨rs.take 0, 40, 0⟩ sd = sd from by rw [← HSD.out]; exact q3)
    clear q1 q2 q3
    go_wp2_with (fail)
    refine (JSync_is (n := 0) (m := 40) (s := 0) HJ.out HSM.out F9.out Q1.out Q2.out Q3.out rfl rfl rfl).mono ?_
    rintro e wy ⟨A21, c21, A22, c22, A23, c23, rfl, -, -, hb, -, -⟩
    have HBY := Lib.hid hb
    clear hb ZLl ZLc0 ZLc1 ZLc2 Z9l Z9c0 Z9c1 Z9c2 Z9c3
    go_wp2_with (fail)
    go_ret
    exact ⟨rfl, ((HW.out.b.up HBY.out).up (al1 _ _)).up (al1 _ _)⟩
  case neg =>
  obtain ⟨ss, q1, q2, q3, q4, q5, q6⟩ := Jn.dmg (n := 40) (rs := rs.take k) (by decide) (by decide) HU.out (by rw [HKL.out]; omega)
  rw [HKL.out] at q2
  have Q1 := Lib.hid (show Jn.syncE ⟨rs.take k, 40, 0⟩ sd = 0 from by rw [← HSD.out]; exact q1)
  have Q2 := Lib.hid (show Jn.syncJ ⟨rs.take k, 40, 0⟩ sd = ⟨rs.take k, 40, k⟩ from by rw [← HSD.out]; exact q2)
  have Q3 := Lib.hid (show Jn.syncD ⟨rs.take k, 40, 0⟩ sd = ⟨ss, [], -1, false⟩ from by rw [← HSD.out]; exact q3)
  have Q4 := Lib.hid q4
  have Q5 := Lib.hid q5
  have Q6 := Lib.hid q6
  have HK0 := Lib.hid (show 0 < k from by omega)
  clear q1 q2 q3 q4 q5 q6 hk0
  have HWC := Lib.hid (Bl.mk (Below.refl wc.heap.size wc))
  have ZLl := ZL.out.lt
  have ZLc0 := ZL.out.cell (k := 0) rfl
  have ZLc1 := ZL.out.cell (k := 1) rfl
  have ZLc2 := ZL.out.cell (k := 2) rfl
  have Z9l := Z9.out.lt
  have Z9c0 := Z9.out.cell (k := 0) rfl
  have Z9c1 := Z9.out.cell (k := 1) rfl
  have Z9c2 := Z9.out.cell (k := 2) rfl
  have Z9c3 := Z9.out.cell (k := 3) rfl
  go_wp2_with (fail)
  refine (JSync_is (n := k) (m := 40) (s := k) HJ.out HSM.out F9.out Q1.out Q2.out Q3.out HKL.out rfl rfl).mono ?_
  rintro e w5 ⟨A21, c21, A22, c22, A23, c23, rfl, hj, hd, hb, -, -⟩
  replace HWC := Lib.hid (HWC.out.upb hb)
  clear hb
  clear ZLl ZLc0 ZLc1 ZLc2 Z9l Z9c0 Z9c1 Z9c2 Z9c3
  have HD := Lib.hid hd
  clear hd hj
  simp only [List.length_nil] at HD ⊢
  go_upto_region 22 with (fail)
  have HS5 := Lib.hid (HWC.out.b.size)
  have NBD := Lib.hid (nb_new HD.out (show w5.heap.size ≤ w5.heap.size + 1 by omega))
  replace HWC := Lib.hid (HWC.out.upb (al1 (w5) (.cells #[.slice A21 k c21, .int .i64 40, .int .i64 k] 29)))
  replace HD := Lib.hid (HD.out.upb (al1 (w5) (.cells #[.slice A21 k c21, .int .i64 40, .int .i64 k] 29)))
  have Z19 := Lib.hid (Cells.new (w5) 29 [.slice A21 k c21, .int .i64 40, .int .i64 k])
  clear Z19
  replace HWC := Lib.hid (HWC.out.upb (al1 ((w5).alloc (.cells #[.slice A21 k c21, .int .i64 40, .int .i64 k] 29)) (.cells #[.slice A22 ss.length c22, .slice A23 0 c23, .int .i64 (-1), .bool false] 25)))
  replace HD := Lib.hid (HD.out.upb (al1 ((w5).alloc (.cells #[.slice A21 k c21, .int .i64 40, .int .i64 k] 29)) (.cells #[.slice A22 ss.length c22, .slice A23 0 c23, .int .i64 (-1), .bool false] 25)))
  have Z20 := Lib.hid (show Cells (((w5).alloc (.cells #[.slice A21 k c21, .int .i64 40, .int .i64 k] 29)).alloc (.cells #[.slice A22 ss.length c22, .slice A23 0 c23, .int .i64 (-1), .bool false] 25)) (w5.heap.size + 1) 25 [.slice A22 ss.length c22, .slice A23 0 c23, .int .i64 (-1), .bool false] from by have h := Cells.new ((w5).alloc (.cells #[.slice A21 k c21, .int .i64 40, .int .i64 k] 29)) 25 [.slice A22 ss.length c22, .slice A23 0 c23, .int .i64 (-1), .bool false]; simpa only [World.size_alloc] using h)
  generalize ((w5).alloc (.cells #[.slice A21 k c21, .int .i64 40, .int .i64 k] 29)).alloc (.cells #[.slice A22 ss.length c22, .slice A23 0 c23, .int .i64 (-1), .bool false] 25) = wz at *
  obtain ⟨C, hC⟩ : ∃ c, w5.heap.size + 1 = c := ⟨_, rfl⟩
  rw [hC] at Z20 NBD
  simp only [hC]
  have HCC := Lib.hid (show wc.heap.size ≤ C from by have := HS5.out; omega)
  clear hC
  obtain ⟨gb, c13', e13⟩ := HO.out.form (by intro e; have := congrArg List.length e; rw [Jn.cum_len] at this; simp at this; have := HK0.out; omega)
  rw [Jn.cum_len] at e13
  injection e13 with e13 e14 e15
  subst e13 e15
  clear e14
  have hc9 := (HO.out.upb HWC.out.b).cell (Jn.cum_get (rs := rs) (k := k) (i := k - 1) (by have := HK0.out; omega))
  rw [show k - 1 + 1 = k by have := HK0.out; omega] at hc9
  have hk1 : (k : Int) - 1 = ((k - 1 : Nat) : Int) := by have := HK0.out; omega
  have hk2 : k - 1 < k := by have := HK0.out; omega
  have t0 : (((k : Nat) : Int) == 0) = false := by rw [beq_eq_false_iff_ne]; have := HK0.out; omega
  have t1 : (k == 0) = false := by rw [beq_eq_false_iff_ne]; have := HK0.out; omega
  have hqw : IntKind.u64.wrap ((Jn.used (rs.take k) : Nat) : Int) = (Jn.used (rs.take k) : Int) := by rw [IntKind.wrap_u64]; have := HU.out; omega
  have hq1 := Jn.used_ge (rs.take k)
  rw [HKL.out] at hq1
  have t2 : (((Jn.used (rs.take k) : Nat) : Int) == 0) = false := by rw [beq_eq_false_iff_ne]; have := HK0.out; omega
  have t3 : (Jn.used (rs.take k) == 0) = false := by rw [beq_eq_false_iff_ne]; have := HK0.out; omega
  obtain ⟨κ, hκ, hκl⟩ : ∃ κ : Nat, wrap64 ((IntKind.u64.wrap sec).tmod (Jn.used (rs.take k) : Int)) = (κ : Int) ∧ κ < Jn.used (rs.take k) := by
    have h0 : 0 ≤ IntKind.u64.wrap sec := by rw [IntKind.wrap_u64]; omega
    have h1 : (IntKind.u64.wrap sec).tmod (Jn.used (rs.take k) : Int) = (IntKind.u64.wrap sec) % (Jn.used (rs.take k) : Int) := Int.tmod_eq_emod_of_nonneg h0
    have h2 := Int.emod_nonneg (IntKind.u64.wrap sec) (b := (Jn.used (rs.take k) : Int)) (by have := HK0.out; omega)
    have h3 := Int.emod_lt_of_pos (IntKind.u64.wrap sec) (b := (Jn.used (rs.take k) : Int)) (by have := HK0.out; omega)
    have h4 := HU.out
    refine ⟨((IntKind.u64.wrap sec) % (Jn.used (rs.take k) : Int)).toNat, ?_, by omega⟩
    rw [h1, IntWalk.wrap64_in _ (by omega)]
    omega
  go_upto_region 25 with (fail)
  clear t0 t1 t2 t3 hqw hq1
  simp only [hκ]
  clear hκ
  have HK := Lib.hid hκl
  obtain ⟨sv, pv, esv, hs1, -⟩ := HD.out
  injection esv with esv
  injection esv with esv
  injection esv with esv1 esv2
  subst esv1
  have HKS := Lib.hid (show κ < ss.length from by rw [Q4.out]; have := HU.out; omega)
  obtain ⟨s1, so1, A27, c27, hA22, hs1l, hsc, hsb⟩ := bs_at hs1 HKS.out
  have h128 := Q5.out _ (List.getElem_mem HKS.out)
  obtain ⟨sk, hsk⟩ : ∃ b, ss[κ]'HKS.out = b := ⟨_, rfl⟩
  have HSK := Lib.hid hsk
  rw [hsk] at hsc hsb h128
  subst hA22
  rw [h128] at hsb
  have HSB := Lib.hid hsb
  have H128 := Lib.hid h128
  rw [h128] at hsc
  clear hs1 hsb hsk esv2 hκl
  have ZLn := Lib.hid (ZL.out.upb HWC.out.b)
  clear hc9 hk1 hk2
  have Z20l := Z20.out.lt
  have Z20c0 := Z20.out.cell (k := 0) rfl
  have Z20c1 := Z20.out.cell (k := 1) rfl
  have Z20c2 := Z20.out.cell (k := 2) rfl
  have Z20c3 := Z20.out.cell (k := 3) rfl
  have ZLnl := ZLn.out.lt
  have ZLnc0 := ZLn.out.cell (k := 0) rfl
  have ZLnc1 := ZLn.out.cell (k := 1) rfl
  have ZLnc2 := ZLn.out.cell (k := 2) rfl
  have u0 : decide ((κ : Int) ≥ (ss.length : Int)) = false := decide_eq_false (by have := HKS.out; omega)
  have u1 : decide ((ss.length : Int) ≤ (κ : Int)) = false := decide_eq_false (by have := HKS.out; omega)
  have u2 : (κ : Int) < (ss.length : Int) := by have := HKS.out; omega
  have u3 : κ < ss.length := HKS.out
  go_upto_region 27 with (fail)
  clear u0 u1 u2 u3
  go_upto_region 28 with (at_builtin; go_must (refine wpList_app rfl (.tmp 145) (.tmp 150) 35 _ _ rfl rfl rfl (appB_run (base := wz.heap.size) _ (ownB_made wz) (HSB.out.upb (al1 wz _)) (by rw [H128.out]; simp) (by simp)) ?_); rintro v6 w6 ⟨ho6, hg6, -⟩; rw [List.nil_append] at ho6; have HB6 := Lib.hid (app_below (al1 wz _) hg6 ownBlk); obtain ⟨g6, c6, e6, hg6l, hg6s⟩ := ho6.form (by intro e; have := H128.out; rw [e] at this; simp at this); subst e6; rw [H128.out] at ho6; have HO6 := Lib.hid ho6; have HG6 := Lib.hid hg6l; have HG6S := Lib.hid hg6s; clear ho6 hg6 hg6l hg6s; try rw [H128.out])
  clear hsc
  clear ZLn
  clear Z20l Z20c0 Z20c1 Z20c2 Z20c3 ZLnl ZLnc0 ZLnc1 ZLnc2
  obtain ⟨i, hi, hil⟩ : ∃ i : Nat, (IntKind.u64.wrap at0).tmod 128 = (i : Int) ∧ i < 128 := by
    have h0 : 0 ≤ IntKind.u64.wrap at0 := by rw [IntKind.wrap_u64]; omega
    have h1 : (IntKind.u64.wrap at0).tmod 128 = (IntKind.u64.wrap at0) % 128 := Int.tmod_eq_emod_of_nonneg h0
    exact ⟨((IntKind.u64.wrap at0) % 128).toNat, by rw [h1]; omega, by omega⟩
  have hi2 : IntKind.u64.wrap (i : Int) = (i : Int) := IntWalk.u64_in _ (by omega)
  have hisk : i < sk.length := by rw [H128.out]; exact hil
  have hcy := HO6.out.cell hisk
  have hfy := HO6.out.frozen i
  obtain ⟨y, hy⟩ : ∃ y, sk[i]'hisk = y := ⟨_, rfl⟩
  rw [hy] at hcy
  have HIL := Lib.hid hil
  have HYI := Lib.hid (show ∃ h : i < sk.length, sk[i] = y from ⟨hisk, hy⟩)
  clear hy hisk
  have hgl := HG6S.out
  go_upto_region 29 with (fail)
  clear hi hi2 hcy hfy hgl
  obtain ⟨x, hx1, hx2⟩ := xor_b y hby HB0.out
  rw [hx1]
  clear hx1
  have HO7 := Lib.hid (HO6.out.set i x)
  have HB7 := Lib.hid (HB6.out.setCell (p := ⟨g6, i, none⟩) HG6.out (.int .u8 (x.toNat : Int)))
  clear HO6 HB6 HG6 HG6S
  obtain ⟨b, d1, d2, m, p1, p2, p3, p4, p5, p6, p7, p8, p9, p10, p11, p12⟩ := Q6.out κ HK.out i x (by rw [show ss.getD κ [] = sk from by rw [← HSK.out]; simp [List.getD, List.getElem?_eq_getElem HKS.out], H128.out]; exact HIL.out) (by
    obtain ⟨hh, hyy⟩ := HYI.out
    have e : ss.getD κ [] = sk := by rw [← HSK.out]; simp [List.getD, List.getElem?_eq_getElem HKS.out]
    intro e2
    apply hx2
    rw [e2, ← hyy]
    congr 1)
  clear HYI hx2
  have P1 := Lib.hid p1
  have P2 := Lib.hid p2
  have P3 := Lib.hid p3
  have P4 := Lib.hid p4
  have P5 := Lib.hid p5
  have P6 := Lib.hid p6
  have P7 := Lib.hid p7
  have P8 := Lib.hid p8
  have P9 := Lib.hid p9
  have P10 := Lib.hid p10
  have HO8 := Lib.hid (show IsBytes _ (.slice (some ⟨g6, 0, none⟩) 128 c6) b from by rw [← show sk.set i x = b from by rw [← P1.out, show ss.getD κ [] = sk from by rw [← HSK.out]; simp [List.getD, List.getElem?_eq_getElem HKS.out]]]; exact HO7.out.bytes)
  clear p1 p2 p3 p4 p5 p6 p7 p8 p9 p10 p11 p12 HO7 HSK HSB H128
  replace HWC := Lib.hid (HWC.out.upb HB7.out)
  replace HD := Lib.hid (HD.out.upb HB7.out)
  replace Z20 := Lib.hid (Z20.out.upb HB7.out)
  generalize w6.setCell ⟨g6, i, none⟩ (.int .u8 (x.toNat : Int)) = w7 at *
  have Z20l := Z20.out.lt
  have Z20c0 := Z20.out.cell (k := 0) rfl
  have Z20c1 := Z20.out.cell (k := 1) rfl
  have Z20c2 := Z20.out.cell (k := 2) rfl
  have Z20c3 := Z20.out.cell (k := 3) rfl
  go_wp2_with (fail)
  have HCL := Lib.hid Z20.out.lt
  refine (Write_is HD.out HO8.out P2.out P3.out).mono ?_
  rintro e w8 ⟨A28, c28, A29, c29, rfl, hd, hb, hsec⟩
  replace HWC := Lib.hid (HWC.out.upb hb)
  replace Z20 := Lib.hid (Z20.out.upb hb)
  clear hb
  clear Z20l Z20c0 Z20c1 Z20c2 Z20c3
  have Z20l := Z20.out.lt
  have Z20c0 := Z20.out.cell (k := 0) rfl
  have Z20c1 := Z20.out.cell (k := 1) rfl
  have Z20c2 := Z20.out.cell (k := 2) rfl
  have Z20c3 := Z20.out.cell (k := 3) rfl
  have Zf0 := Z20.out.frozen 0
  have Zf1 := Z20.out.frozen 1
  have Zf2 := Z20.out.frozen 2
  have Zf3 := Z20.out.frozen 3
  go_upto_region 30 with (fail)
  clear Z20l Z20c0 Z20c1 Z20c2 Z20c3 Zf0 Zf1 Zf2 Zf3
  have NBN := Lib.hid (nb_sec HD.out hd hsec NBD.out HCL.out)
  have hgB := grown_set4 w8 C (.slice A28 d1.ss.length c28) (.slice A29 d1.ps.length c29) (.int .i64 d1.left) (.bool d1.st)
  have HDN := Lib.hid (hd.box NBN.out Z20.out hgB)
  have ZN := Lib.hid (Z20.out.set4 (.slice A28 d1.ss.length c28) (.slice A29 d1.ps.length c29) (.int .i64 d1.left) (.bool d1.st))
  have HWN := Lib.hid (Bl.mk (below_set4 HWC.out.b HCC.out (.slice A28 d1.ss.length c28) (.slice A29 d1.ps.length c29) (.int .i64 d1.left) (.bool d1.st)))
  clear hd hsec hgB NBD HD Z20 HWC HCL
  obtain ⟨wa, hwz⟩ : ∃ x, set4 w8 C (.slice A28 d1.ss.length c28) (.slice A29 d1.ps.length c29) (.int .i64 d1.left) (.bool d1.st) = x := ⟨_, rfl⟩
  have hwz' := hwz
  rw [hwz] at HDN ZN HWN
  unfold set4 at hwz'
  rw [hwz']
  clear hwz' hwz
  have NBD := NBN
  have HD := HDN
  have Z20 := ZN
  have HWC := HWN
  clear NBN HDN ZN HWN
  have HCL := Lib.hid Z20.out.lt
  have Z20l := Z20.out.lt
  have Z20c0 := Z20.out.cell (k := 0) rfl
  have Z20c1 := Z20.out.cell (k := 1) rfl
  have Z20c2 := Z20.out.cell (k := 2) rfl
  have Z20c3 := Z20.out.cell (k := 3) rfl
  have Zf0 := Z20.out.frozen 0
  have Zf1 := Z20.out.frozen 1
  have Zf2 := Z20.out.frozen 2
  have Zf3 := Z20.out.frozen 3
  go_wp2_with (fail)
  refine (Sync_is HD.out P4.out P5.out).mono ?_
  rintro e w9 ⟨A30, c30, A31, c31, rfl, hd, hb, hsec⟩
  replace HWC := Lib.hid (HWC.out.upb hb)
  replace Z20 := Lib.hid (Z20.out.upb hb)
  clear hb
  clear Z20l Z20c0 Z20c1 Z20c2 Z20c3 Zf0 Zf1 Zf2 Zf3
  have Z20l := Z20.out.lt
  have Z20c0 := Z20.out.cell (k := 0) rfl
  have Z20c1 := Z20.out.cell (k := 1) rfl
  have Z20c2 := Z20.out.cell (k := 2) rfl
  have Z20c3 := Z20.out.cell (k := 3) rfl
  have Zf0 := Z20.out.frozen 0
  have Zf1 := Z20.out.frozen 1
  have Zf2 := Z20.out.frozen 2
  have Zf3 := Z20.out.frozen 3
  go_upto_region 31 with (fail)
  clear Z20l Z20c0 Z20c1 Z20c2 Z20c3 Zf0 Zf1 Zf2 Zf3
  have NBN := Lib.hid (nb_sec HD.out hd hsec NBD.out HCL.out)
  have hgB := grown_set4 w9 C (.slice A30 d2.ss.length c30) (.slice A31 d2.ps.length c31) (.int .i64 d2.left) (.bool d2.st)
  have HDN := Lib.hid (hd.box NBN.out Z20.out hgB)
  have ZN := Lib.hid (Z20.out.set4 (.slice A30 d2.ss.length c30) (.slice A31 d2.ps.length c31) (.int .i64 d2.left) (.bool d2.st))
  have HWN := Lib.hid (Bl.mk (below_set4 HWC.out.b HCC.out (.slice A30 d2.ss.length c30) (.slice A31 d2.ps.length c31) (.int .i64 d2.left) (.bool d2.st)))
  clear hd hsec hgB NBD HD Z20 HWC HCL
  obtain ⟨wb, hwz⟩ : ∃ x, set4 w9 C (.slice A30 d2.ss.length c30) (.slice A31 d2.ps.length c31) (.int .i64 d2.left) (.bool d2.st) = x := ⟨_, rfl⟩
  have hwz' := hwz
  rw [hwz] at HDN ZN HWN
  unfold set4 at hwz'
  rw [hwz']
  clear hwz' hwz
  have NBD := NBN
  have HD := HDN
  have Z20 := ZN
  have HWC := HWN
  clear NBN HDN ZN HWN
  have HCL := Lib.hid Z20.out.lt
  have Z20l := Z20.out.lt
  have Z20c0 := Z20.out.cell (k := 0) rfl
  have Z20c1 := Z20.out.cell (k := 1) rfl
  have Z20c2 := Z20.out.cell (k := 2) rfl
  have Z20c3 := Z20.out.cell (k := 3) rfl
  have Zf0 := Z20.out.frozen 0
  have Zf1 := Z20.out.frozen 1
  have Zf2 := Z20.out.frozen 2
  have Zf3 := Z20.out.frozen 3
  go_wp2_with (fail)
  have hmk : m < k := by have := P8.out; rwa [HKL.out] at this
  have HMK := Lib.hid hmk
  have htt : ∀ q, q ≤ k → (rs.take k).take q = rs.take q := fun q hq => by rw [List.take_take, Nat.min_eq_left hq]
  have P9' := Lib.hid (show Jn.used (rs.take m) ≤ κ from by have := P9.out; rwa [htt m (by omega)] at this)
  have P10' := Lib.hid (show κ < Jn.used (rs.take (m + 1)) from by have := P10.out; rwa [htt (m + 1) (by omega)] at this)
  have P7' := Lib.hid (show Jn.openJ d2 = ⟨rs.take m, 40, m⟩ from by have := P7.out; rwa [htt m (by omega)] at this)
  have HML := Lib.hid (show (rs.take m).length = m from by rw [List.length_take]; omega)
  clear P7 P8 P9 P10 htt hmk
  refine (Open_is (n := m) (m := 40) (s := m) HD.out P6.out P7'.out HML.out rfl rfl).mono ?_
  rintro e w10 ⟨A32, c32, rfl, hj, hb, -⟩
  replace HWC := Lib.hid (HWC.out.upb hb)
  clear hb
  clear Z20l Z20c0 Z20c1 Z20c2 Z20c3 Zf0 Zf1 Zf2 Zf3
  have L32 := Lib.hid hj
  clear hj
  go_upto_region 32 with (fail)
  replace HWC := Lib.hid (HWC.out.upb (al1 (w10) (.cells #[.slice A32 m c32, .int .i64 40, .int .i64 m] 29)))
  replace L32 := Lib.hid (L32.out.upb (al1 (w10) (.cells #[.slice A32 m c32, .int .i64 40, .int .i64 m] 29)))
  have Z32 := Lib.hid (Cells.new (w10) 29 [.slice A32 m c32, .int .i64 40, .int .i64 m])
  generalize (w10).alloc (.cells #[.slice A32 m c32, .int .i64 40, .int .i64 m] 29) = wn at *
  go_wp2_with (fail)
  go_loopw [27] (fun s27 wr => ∃ q : Nat, s27 = .int .i64 q ∧ q ≤ m ∧ wr = wn) (fun s27 _ => m - (intOf s27).toNat)
  case atStart => exact ⟨0, rfl, Nat.zero_le _, rfl⟩
  case round =>
    obtain ⟨q, rfl, hq, rfl⟩ := hrel
    have hcq := (HO.out.upb HWC.out.b).cell (Jn.cum_get (rs := rs) (k := k) (i := q) (by have := HMK.out; omega))
    have hqk : decide ((q : Int) < (k : Int)) = true := decide_eq_true (by have := HMK.out; omega)
    have hqk2 : q < k := by have := HMK.out; omega
    by_cases hqm : q < m
    case pos =>
      have hle : decide (((Jn.used (rs.take (q + 1)) : Nat) : Int) ≤ (κ : Int)) = true := decide_eq_true (by have h1 := Jn.used_mono rs (show q + 1 ≤ m by omega); have := P9'.out; omega)
      have hle2 : Jn.used (rs.take (q + 1)) ≤ κ := by have h1 := Jn.used_mono rs (show q + 1 ≤ m by omega); have := P9'.out; omega
      have hw : wrap64 ((q : Int) + 1) = (q : Int) + 1 := IntWalk.wrap64_in _ (by have := HKS.out; have := Q4.out; have := HMK.out; have := HL.out; omega)
      go_wp2_with (fail)
      rw [hw]
      exact ⟨⟨q + 1, rfl, hqm, trivial⟩, m_less hqm⟩
    case neg =>
    have hqe : m = q := by omega
    subst hqe
    have hle : decide (((Jn.used (rs.take (m + 1)) : Nat) : Int) ≤ (κ : Int)) = false := decide_eq_false (by have := P10'.out; omega)
    have hle2 : ¬ Jn.used (rs.take (m + 1)) ≤ κ := by have := P10'.out; omega
    go_upto_region 35 with (fail)
    clear hle hle2 hcq hqk hqk2
    obtain ⟨sv, esv, hs2⟩ := HJ.out.upb HWC.out.b
    injection esv with esv
    injection esv with esv
    injection esv with esv1 esv2
    subst esv1
    obtain ⟨bx, ox, A8, c8, hA, -, -, -⟩ := bs_at hs2 (k := 0) (by show 0 < (rs.take k).length; rw [HKL.out]; exact HK0.out)
    subst hA
    have hcap : m ≤ c11 := by
      obtain ⟨A', c', vs, e, h, _⟩ := hs2
      injection e with _ e0 e
      have h1 := HMK.out
      have h2 : (rs.take k).length ≤ c' := h
      rw [HKL.out] at h2
      omega
    have HTK := Lib.hid (show IsBs _ (.slice (some ⟨bx, ox, none⟩) m c11) (rs.take m) from by
      have h := bs_take (k := m) (c' := c11) hs2 (by show m ≤ (rs.take k).length; rw [HKL.out]; exact Nat.le_of_lt HMK.out) hcap
      rwa [List.take_take, Nat.min_eq_left (by have := HMK.out; omega)] at h)
    clear hs2 esv2
    obtain ⟨sv, esv, hs2⟩ := L32.out
    injection esv with esv
    injection esv with esv
    injection esv with esv1 esv2
    subst esv1
    have FB := Lib.hid hs2
    clear hs2 esv2
    have HRL := Lib.hid (show (rs.take m).length ≤ 1000000 by rw [HML.out]; have := HMK.out; have := HL.out; have := HU.out; have h1 := Jn.used_ge (rs.take k); rw [HKL.out] at h1; omega)
    have ZLn := Lib.hid (ZL.out.upb HWC.out.b)
    have hcc : (m : Int) ≤ (c11 : Int) := by omega
    have zl0 := ZLn.out.cell (k := 0) rfl
    have z32 := Z32.out.cell (k := 0) rfl
    have q0 := BW.cell zl0
    have q1 := BW.cell z32
    refine wp_region_kept (by kernel_rfl) ?_
    repeat (go_big_quiet_step (first | (go_at_call 24; exact BW.call (recs_b (FB.out.upb (BW.h _)) (HTK.out.upb (BW.h _)) HRL.out (decide_eq_true rfl)) (fun _ _ h => h)) | fail))
    rintro _ ⟨nq, rfl⟩
    go_wp2_with (fail)
    go_ret
    exact ⟨rfl, (HW.out.b.up HWC.out.b).up nq.h⟩
end Go.Proofs.Ytkcnanclpkongaa

/- Walk of JournalRoom. -/
import Derived.Test.YtkcnanclpkongaaL2
namespace Go.Proofs.Ytkcnanclpkongaa
open Go.RowKit
set_option linter.unusedVariables false
set_option linter.unusedSimpArgs false
set_option maxRecDepth 20000

namespace Jn
theorem fewN_ge (rs : List By) : rs.length ≤ fewN rs := by
  induction rs with
  | nil => simp [fewN]
  | cons b r ih => simp only [fewN, List.length_cons]; omega
theorem fewN_at : ∀ {rs : List By} {k : Nat} (h : k < rs.length), rs[k].length + 1 ≤ fewN rs
  | b :: r, 0, _ => by simp only [fewN, List.getElem_cons_zero]; omega
  | b :: r, k + 1, h => by
    have := fewN_at (rs := r) (k := k) (by simpa using h)
    simp only [fewN, List.getElem_cons_succ]; omega
/-- a list that few accepts, its count being exact -/
theorem few_sm {d : Dk} {rs : List By} (hN : fewN rs ≤ 9000000000000000000) (h : fewB d rs = true) : fewN rs ≤ 4000 ∧ Sm rs := by
  unfold fewB at h
  simp only [Bool.and_eq_true, decide_eq_true_eq] at h
  have h2 := h.2
  rw [fewS_eq hN] at h2
  have h3 : fewN rs ≤ 4000 := by omega
  refine ⟨h3, by have := fewN_ge rs; omega, fun k hk => ?_⟩
  have := fewN_at hk
  omega
theorem fit_room {j : Jl} {b : By} (h : OkJ j) : ((nsec b.length : Int) ≤ j.many - used j.rs) ↔ (0 < room j ∧ (b.length : Int) ≤ room j) := by
  unfold room
  rw [if_pos h]
  unfold nsec
  have h5 := h.2.2.2.2
  omega
end Jn
theorem recs_b {u v : Value} {a b : List By} {w : World} {r : Bool} (hu : IsBs w u a) (hv : IsBs w v b) (hl : a.length ≤ 1000000) (hr : decide (a = b) = r) :
    Calls Try.prog 24 #[u, v] w fun e w' => e = .returned (.bool r) ∧ Below w.heap.size w w' := by
  subst hr
  refine (SameRecords_any hu hv hl).mono ?_
  rintro e w' ⟨rfl, n, rfl⟩
  exact ⟨rfl, below_drewN (Below.refl _ _) n⟩
set_option maxHeartbeats 8000000 in
set_option maxRecDepth 100000 in
theorem JournalRoom_any {v u : Value} {j : Jl} {b : By} {w : World} (hv : IsJ w v j) (hN : Jn.fewN j.rs ≤ 9000000000000000000) (hu : IsBytes w u b) :
    Calls Try.prog 6 #[v, u] w fun e w' => e = .returned (.bool true) ∧ Below w.heap.size w w' := by
  obtain ⟨A, c, rfl, hbs⟩ := hv.open_
  obtain ⟨Au, cu, rfl, _⟩ := id hu
  have HNN := Lib.hid hN
  have HL2 := Lib.hid (show j.rs.length ≤ 9223372036854775807 by have := Jn.fewN_ge j.rs; omega)
  clear hN
  have HW := Lib.hid (Bl.mk (Below.refl w.heap.size w))
  have F := Lib.hid hv
  have FB := Lib.hid hbs
  have U := Lib.hid hu
  clear hv hbs hu
  go_enter Try.func6, Try.ntmps6
  go_wp2_with (fail)
  replace HW := Lib.hid (HW.out.upb (al1 (w) (.cells #[.slice A j.rs.length c, .int .i64 j.many, .int .i64 j.syn] 29)))
  replace F := Lib.hid (F.out.upb (al1 (w) (.cells #[.slice A j.rs.length c, .int .i64 j.many, .int .i64 j.syn] 29)))
  replace FB := Lib.hid (FB.out.upb (al1 (w) (.cells #[.slice A j.rs.length c, .int .i64 j.many, .int .i64 j.syn] 29)))
  replace U := Lib.hid (U.out.upb (al1 (w) (.cells #[.slice A j.rs.length c, .int .i64 j.many, .int .i64 j.syn] 29)))
  have Z := Lib.hid (Cells.new (w) 29 [.slice A j.rs.length c, .int .i64 j.many, .int .i64 j.syn])
  refine (sane_any _).mono ?_
  rintro e w1 ⟨rfl, hb⟩
  replace HW := Lib.hid (HW.out.upb hb)
  replace F := Lib.hid (F.out.upb hb)
  replace FB := Lib.hid (FB.out.upb hb)
  replace U := Lib.hid (U.out.upb hb)
  replace Z := Lib.hid (Z.out.upb hb)
  clear hb
  have Zl := Z.out.lt
  have Zc0 := Z.out.cell (k := 0) rfl
  have Zc1 := Z.out.cell (k := 1) rfl
  have Zc2 := Z.out.cell (k := 2) rfl
  go_wp2_with (fail)
  refine (few_any IsD.zero FB.out HL2.out (by decide) (by decide)).mono ?_
  rintro e w2 ⟨rfl, hb⟩
  replace HW := Lib.hid (HW.out.upb hb)
  replace F := Lib.hid (F.out.upb hb)
  replace FB := Lib.hid (FB.out.upb hb)
  replace U := Lib.hid (U.out.upb hb)
  replace Z := Lib.hid (Z.out.upb hb)
  clear hb
  clear Zl Zc0 Zc1 Zc2
  have Zl := Z.out.lt
  have Zc0 := Z.out.cell (k := 0) rfl
  have Zc1 := Z.out.cell (k := 1) rfl
  have Zc2 := Z.out.cell (k := 2) rfl
  obtain ⟨fb, hfb⟩ : ∃ b, Jn.fewB d0 j.rs = b := ⟨_, rfl⟩
  rw [hfb]
  cases fb
  case false =>
    clear hfb
    go_wp2_with (fail)
    go_ret
    exact ⟨rfl, HW.out.b⟩
  case true =>
  have HSM := Lib.hid (Jn.few_sm HNN.out hfb).2
  clear hfb
  by_cases hbig : 70000 < b.length
  case pos =>
    have hd : decide ((70000 : Int) < (b.length : Int)) = true := decide_eq_true (by omega)
    have hd2 : decide (70000 < b.length) = true := decide_eq_true hbig
    go_wp2_with (fail)
    go_ret
    exact ⟨rfl, HW.out.b⟩
  case neg =>
  have hd : decide ((70000 : Int) < (b.length : Int)) = false := decide_eq_false (by omega)
  have hd2 : decide (70000 < b.length) = false := decide_eq_false hbig
  have HBL := Lib.hid (show b.length ≤ 1000000 from by omega)
  clear hbig
  obtain ⟨k0, hk⟩ : ∃ r, Jn.chkJ j = r := ⟨_, rfl⟩
  have HK := Lib.hid hk
  clear hk
  go_wp2_with (fail)
  refine (JCheck_is F.out HSM.out HK.out).mono ?_
  rintro e w3 ⟨rfl, hb⟩
  replace HW := Lib.hid (HW.out.upb hb)
  replace F := Lib.hid (F.out.upb hb)
  replace FB := Lib.hid (FB.out.upb hb)
  replace U := Lib.hid (U.out.upb hb)
  replace Z := Lib.hid (Z.out.upb hb)
  clear hb
  clear Zl Zc0 Zc1 Zc2
  have Zl := Z.out.lt
  have Zc0 := Z.out.cell (k := 0) rfl
  have Zc1 := Z.out.cell (k := 1) rfl
  have Zc2 := Z.out.cell (k := 2) rfl
  by_cases hok : Jn.OkJ j
  case neg =>
    obtain rfl : k0 = 1 := by rw [← HK.out]; unfold Jn.chkJ; rw [if_neg hok]
    clear hok
    go_wp2_with (fail)
    go_ret
    exact ⟨rfl, HW.out.b⟩
  case pos =>
  obtain rfl : k0 = 0 := by rw [← HK.out]; unfold Jn.chkJ; rw [if_pos hok]
  obtain ⟨ρ, hρ⟩ : ∃ r, Jn.room j = r := ⟨_, rfl⟩
  have HRM := Lib.hid hρ
  have HFR := Lib.hid (Jn.fit_room (b := b) hok)
  rw [hρ] at HFR
  have HOK := Lib.hid hok
  clear hρ hok
  obtain ⟨e0, he⟩ : ∃ r, Jn.appE j b = r := ⟨_, rfl⟩
  obtain ⟨r, hr⟩ : ∃ r, Jn.appJ j b = r := ⟨_, rfl⟩
  have HE := Lib.hid he
  have HR := Lib.hid hr
  clear he hr
  by_cases hfit : (Jn.nsec b.length : Int) ≤ j.many - Jn.used j.rs
  case neg =>
    obtain rfl : e0 = 2 := by rw [← HE.out]; unfold Jn.appE; rw [if_pos HOK.out, if_neg hfit]
    obtain rfl : r = j0 := by rw [← HR.out]; unfold Jn.appJ; rw [if_pos HOK.out, if_neg hfit]
    have hno := mt HFR.out.2 hfit
    have HNO := Lib.hid hno
    clear hno hfit HFR
    go_wp2_with (fail)
    refine (JAppend_is (n := 0) (m := 0) (s := 0) F.out HSM.out U.out HBL.out HE.out HR.out rfl rfl rfl).mono ?_
    rintro e w4 ⟨A5, c5, rfl, hj, hb, -⟩
    replace HW := Lib.hid (HW.out.upb hb)
    replace F := Lib.hid (F.out.upb hb)
    replace FB := Lib.hid (FB.out.upb hb)
    replace U := Lib.hid (U.out.upb hb)
    replace Z := Lib.hid (Z.out.upb hb)
    clear hb hj
    clear Zl Zc0 Zc1 Zc2
    have Zl := Z.out.lt
    have Zc0 := Z.out.cell (k := 0) rfl
    have Zc1 := Z.out.cell (k := 1) rfl
    have Zc2 := Z.out.cell (k := 2) rfl
    go_wp2_with (fail)
    replace HW := Lib.hid (HW.out.upb (al1 (w4) (.cells #[.slice A5 0 c5, .int .i64 0, .int .i64 0] 29)))
    replace F := Lib.hid (F.out.upb (al1 (w4) (.cells #[.slice A5 0 c5, .int .i64 0, .int .i64 0] 29)))
    replace FB := Lib.hid (FB.out.upb (al1 (w4) (.cells #[.slice A5 0 c5, .int .i64 0, .int .i64 0] 29)))
    replace U := Lib.hid (U.out.upb (al1 (w4) (.cells #[.slice A5 0 c5, .int .i64 0, .int .i64 0] 29)))
    replace Z := Lib.hid (Z.out.upb (al1 (w4) (.cells #[.slice A5 0 c5, .int .i64 0, .int .i64 0] 29)))
    have Z5 := Lib.hid (Cells.new (w4) 29 [.slice A5 0 c5, .int .i64 0, .int .i64 0])
    clear Zl Zc0 Zc1 Zc2
    have Zl := Z.out.lt
    have Zc0 := Z.out.cell (k := 0) rfl
    have Zc1 := Z.out.cell (k := 1) rfl
    have Zc2 := Z.out.cell (k := 2) rfl
    have Z5l := Z5.out.lt
    have Z5c0 := Z5.out.cell (k := 0) rfl
    have Z5c1 := Z5.out.cell (k := 1) rfl
    have Z5c2 := Z5.out.cell (k := 2) rfl
    try go_wp2_with (fail)
    refine (Room_is F.out HSM.out HRM.out).mono ?_
    rintro e w5 ⟨rfl, hb⟩
    replace HW := Lib.hid (HW.out.upb hb)
    replace F := Lib.hid (F.out.upb hb)
    replace FB := Lib.hid (FB.out.upb hb)
    replace U := Lib.hid (U.out.upb hb)
    replace Z := Lib.hid (Z.out.upb hb)
    replace Z5 := Lib.hid (Z5.out.upb hb)
    clear hb
    clear Zl Zc0 Zc1 Zc2 Z5l Z5c0 Z5c1 Z5c2
    have Zl := Z.out.lt
    have Zc0 := Z.out.cell (k := 0) rfl
    have Zc1 := Z.out.cell (k := 1) rfl
    have Zc2 := Z.out.cell (k := 2) rfl
    have Z5l := Z5.out.lt
    have Z5c0 := Z5.out.cell (k := 0) rfl
    have Z5c1 := Z5.out.cell (k := 1) rfl
    have Z5c2 := Z5.out.cell (k := 2) rfl
    by_cases h0 : 0 < ρ
    · have t0 : decide (0 < ρ) = true := decide_eq_true h0
      have t1 : decide ((b.length : Int) ≤ ρ) = false := decide_eq_false (fun h => HNO.out ⟨h0, h⟩)
      clear h0
      go_wp2_with (fail)
      go_ret
      exact ⟨rfl, HW.out.b⟩
    · have t0 : decide (0 < ρ) = false := decide_eq_false h0
      clear h0
      go_wp2_with (fail)
      go_ret
      exact ⟨rfl, HW.out.b⟩
  case pos =>
  obtain rfl : e0 = 0 := by rw [← HE.out]; unfold Jn.appE; rw [if_pos HOK.out, if_pos hfit]
  have hrr : r = ⟨j.rs ++ [b], j.many, j.syn⟩ := by rw [← HR.out]; unfold Jn.appJ; rw [if_pos HOK.out, if_pos hfit]
  obtain ⟨h0, h1⟩ := HFR.out.1 hfit
  have t0 : decide (0 < ρ) = true := decide_eq_true h0
  have t1 : decide ((b.length : Int) ≤ ρ) = true := decide_eq_true h1
  have HRN := Lib.hid (show r.rs.length = j.rs.length + 1 from by rw [hrr]; simp)
  have HRM1 := Lib.hid (show r.many = j.many from by rw [hrr])
  have HRS1 := Lib.hid (show r.syn = j.syn from by rw [hrr])
  have HRE := Lib.hid hrr
  have hu := Jn.used_append j.rs [b]
  have hok2 : Jn.OkJ r := by
    have h := HOK.out
    rw [hrr]
    refine ⟨h.1, h.2.1, h.2.2.1, ?_, ?_⟩
    · have := h.2.2.2.1; simp only [List.length_append, List.length_singleton]; omega
    · show (Jn.used (j.rs ++ [b]) : Int) ≤ j.many
      rw [hu]; simp only [Jn.used]; omega
  have HC2 := Lib.hid (show Jn.chkJ r = 0 from if_pos hok2)
  obtain ⟨ρ2, hρ2⟩ : ∃ x, Jn.room r = x := ⟨_, rfl⟩
  have HR2 := Lib.hid hρ2
  have t2 : decide (ρ2 < ρ) = true := by
    refine decide_eq_true ?_
    rw [← hρ2, ← HRM.out]
    unfold Jn.room
    rw [if_pos hok2, if_pos HOK.out, hrr]
    show 112 * (j.many - (Jn.used (j.rs ++ [b]) : Int)) < 112 * (j.many - (Jn.used j.rs : Int))
    rw [hu]
    have := Jn.nsec_pos b.length
    simp only [Jn.used]; omega
  have HSM2 := Lib.hid (show Jn.Sm r.rs from by
    have h := HSM.out
    have hl := HBL.out
    rw [hrr]
    refine ⟨?_, fun k hk => ?_⟩
    · show (j.rs ++ [b]).length ≤ 100000
      have h3 := HOK.out.2.2.2.2
      have h4 := HOK.out.2.1
      have h5 := Jn.used_ge j.rs
      simp only [List.length_append, List.length_singleton]; omega
    · show (j.rs ++ [b])[k].length ≤ 1000000
      by_cases e : k < j.rs.length
      · rw [List.getElem_append_left e]; exact h.2 k e
      · have e2 : k = j.rs.length := by simp only [List.length_append, List.length_singleton] at hk; omega
        subst e2
        simpa using hl)
  have hn4 : j.rs.length ≤ 4096 := by
    have h3 := HOK.out.2.2.2.2
    have h4 := HOK.out.2.1
    have h5 := Jn.used_ge j.rs
    omega
  clear hrr hfit hok2 hρ2 HFR hu h0 h1
  go_wp2_with (fail)
  refine (JAppend_is F.out HSM.out U.out HBL.out HE.out HR.out HRN.out HRM1.out HRS1.out).mono ?_
  rintro e w4 ⟨A5, c5, rfl, hj, hb, -⟩
  replace HW := Lib.hid (HW.out.upb hb)
  replace F := Lib.hid (F.out.upb hb)
  replace FB := Lib.hid (FB.out.upb hb)
  replace U := Lib.hid (U.out.upb hb)
  replace Z := Lib.hid (Z.out.upb hb)
  clear hb
  clear Zl Zc0 Zc1 Zc2
  have L5 := Lib.hid hj
  clear hj
  have Zl := Z.out.lt
  have Zc0 := Z.out.cell (k := 0) rfl
  have Zc1 := Z.out.cell (k := 1) rfl
  have Zc2 := Z.out.cell (k := 2) rfl
  go_wp2_with (fail)
  replace HW := Lib.hid (HW.out.upb (al1 (w4) (.cells #[.slice A5 (j.rs.length + 1) c5, .int .i64 j.many, .int .i64 j.syn] 29)))
  replace F := Lib.hid (F.out.upb (al1 (w4) (.cells #[.slice A5 (j.rs.length + 1) c5, .int .i64 j.many, .int .i64 j.syn] 29)))
  replace FB := Lib.hid (FB.out.upb (al1 (w4) (.cells #[.slice A5 (j.rs.length + 1) c5, .int .i64 j.many, .int .i64 j.syn] 29)))
  replace U := Lib.hid (U.out.upb (al1 (w4) (.cells #[.slice A5 (j.rs.length + 1) c5, .int .i64 j.many, .int .i64 j.syn] 29)))
  replace Z := Lib.hid (Z.out.upb (al1 (w4) (.cells #[.slice A5 (j.rs.length + 1) c5, .int .i64 j.many, .int .i64 j.syn] 29)))
  replace L5 := Lib.hid (L5.out.upb (al1 (w4) (.cells #[.slice A5 (j.rs.length + 1) c5, .int .i64 j.many, .int .i64 j.syn] 29)))
  have Z5 := Lib.hid (Cells.new (w4) 29 [.slice A5 (j.rs.length + 1) c5, .int .i64 j.many, .int .i64 j.syn])
  clear Zl Zc0 Zc1 Zc2
  have Zl := Z.out.lt
  have Zc0 := Z.out.cell (k := 0) rfl
  have Zc1 := Z.out.cell (k := 1) rfl
  have Zc2 := Z.out.cell (k := 2) rfl
  have Z5l := Z5.out.lt
  have Z5c0 := Z5.out.cell (k := 0) rfl
  have Z5c1 := Z5.out.cell (k := 1) rfl
  have Z5c2 := Z5.out.cell (k := 2) rfl
  try go_wp2_with (fail)
  refine (Room_is F.out HSM.out HRM.out).mono ?_
  rintro e w5 ⟨rfl, hb⟩
  replace HW := Lib.hid (HW.out.upb hb)
  replace F := Lib.hid (F.out.upb hb)
  replace FB := Lib.hid (FB.out.upb hb)
  replace U := Lib.hid (U.out.upb hb)
  replace Z := Lib.hid (Z.out.upb hb)
  replace L5 := Lib.hid (L5.out.upb hb)
  replace Z5 := Lib.hid (Z5.out.upb hb)
  clear hb
  clear Zl Zc0 Zc1 Zc2 Z5l Z5c0 Z5c1 Z5c2
  have Zl := Z.out.lt
  have Zc0 := Z.out.cell (k := 0) rfl
  have Zc1 := Z.out.cell (k := 1) rfl
  have Zc2 := Z.out.cell (k := 2) rfl
  have Z5l := Z5.out.lt
  have Z5c0 := Z5.out.cell (k := 0) rfl
  have Z5c1 := Z5.out.cell (k := 1) rfl
  have Z5c2 := Z5.out.cell (k := 2) rfl
  have hb5 : IsBs w5 (.slice A5 (j.rs.length + 1) c5) (j.rs ++ [b]) := by
    obtain ⟨sv, e, h1⟩ := L5.out
    injection e with e
    injection e with e
    injection e with e _
    rw [e]
    have h2 := h1
    rw [HRE.out] at h2
    exact h2
  obtain ⟨bx, ox, A8, c8, hA, hbx, hcx, hbb⟩ := bs_at hb5 (k := j.rs.length) (by simp)
  subst hA
  have hcap : j.rs.length + 1 ≤ c5 := by
    obtain ⟨A', c', vs, e, h, _⟩ := hb5
    injection e with _ _ e
    rw [e]
    simpa using h
  have hgl : (j.rs ++ [b])[j.rs.length]'(by simp) = b := by simp
  rw [hgl] at hcx hbb
  have HBX := Lib.hid hbb
  have HTK := Lib.hid (show IsBs w5 (.slice (some ⟨bx, ox, none⟩) j.rs.length c5) j.rs from by
    have h := bs_take (k := j.rs.length) (c' := c5) hb5 (by simp) (by omega)
    rwa [List.take_left'] at h
    rfl)
  have hv1 := fun (m : BW w5) => conv_str (HBX.out.upb m.h)
  have hv2 := fun (m : BW w5) => conv_str (U.out.upb m.h)
  have HRL := Lib.hid (show j.rs.length ≤ 1000000 by omega)
  clear hb5 hgl hbb
  go_upto_region 12 with (fail)
  have q0 := BW.cell Zc0
  have q1 := BW.cell Zc1
  have q2 := BW.cell Zc2
  have q3 := BW.cell Z5c0
  have q4 := BW.cell Z5c1
  have q5 := BW.cell Z5c2
  have q6 := BW.cell hcx
  have hcmp : (b == b) = true := by simp
  have hlen : (((j.rs.length + 1 : Nat) : Int) == (j.rs.length : Int) + 1) = true := by rw [beq_iff_eq]; omega
  have hwr : IntKind.i64.wrap ((j.rs.length : Int) + 1) = (j.rs.length : Int) + 1 := IntWalk.i64_in _ (by omega)
  refine wp_region_kept (by kernel_rfl) ?_
  repeat (go_big_quiet_step (first | (go_at_call 17; exact BW.call (JCheck_is (L5.out.upb (BW.h _)) HSM2.out HC2.out) (fun _ _ h => h)) | (go_at_call 24; exact BW.call (recs_b (HTK.out.upb (BW.h _)) (FB.out.upb (BW.h _)) HRL.out (decide_eq_true rfl)) (fun _ _ h => h)) | (go_at_call 19; exact BW.call (Room_is (L5.out.upb (BW.h _)) HSM2.out HR2.out) (fun _ _ h => h))))
  rintro _ ⟨nq, rfl⟩
  go_wp2_with (fail)
  go_ret
  exact ⟨rfl, HW.out.b.up nq.h⟩
end Go.Proofs.Ytkcnanclpkongaa

/- Walk of chapter 35's examples. -/
import Derived.Test.YtninnpcggeofmaaW27
namespace Go.Proofs.Ytninnpcggeofmaa
open Go.RowKit
set_option linter.unusedVariables false
set_option linter.unusedSimpArgs false
attribute [local go_sem] frozen_new

theorem Standing_is {v : Value} {l : List Hh} {t e0 : Int} {L : List Hh} {w : World} (h1 : Hh.stdE l t = e0) (h2 : Hh.stdL l t = L) (hv : IsHs w v l) (hl : l.length ≤ 9223372036854775807) :
    Calls Try.prog 18 #[v, .int .i64 t] w fun e w' => ∃ v', e = .returned (.tuple #[v', .int .i64 e0]) ∧ OwnHs w' w.heap.size v' L ∧ Below w.heap.size w w' := by
  subst h1 h2; exact Standing_any v l t w hv hl
theorem Add_is {v : Value} {l : List Hh} {x : Hh} {e0 : Int} {L : List Hh} {w : World} (h1 : Hh.addE l x = e0) (h2 : Hh.addL l x = L) (hv : IsHs w v l) (hl : l.length ≤ 9223372036854775807) :
    Calls Try.prog 16 #[v, vH x] w fun e w' => ∃ v', e = .returned (.tuple #[v', .int .i64 e0]) ∧ OwnHs w' w.heap.size v' L ∧ Below w.heap.size w w' := by
  subst h1 h2; exact Add_any v l x w hv hl
theorem l0_cells {X : World} {n : Nat} (h : X.heap[n]? = some (.cells #[.int .i64 2, .int .i64 1, .int .i64 (-1), .int .i64 10, .int .i64 20, .int .i64 (-1), .int .i64 15, .int .i64 1099511627776, .int .i64 7, .int .i64 0, .int .i64 5, .int .i64 1, .int .i64 (-1), .int .i64 10, .int .i64 20, .int .i64 (-1), .int .i64 15, .int .i64 1099511627776, .int .i64 9, .int .i64 0] 24 (0, 0))) : X.cell? ⟨n, 0, none⟩ = some (.int .i64 2) ∧ X.cell? ⟨n, 1, none⟩ = some (.int .i64 1) ∧ X.cell? ⟨n, 2, none⟩ = some (.int .i64 (-1)) ∧ X.cell? ⟨n, 3, none⟩ = some (.int .i64 10) ∧ X.cell? ⟨n, 4, none⟩ = some (.int .i64 20) ∧ X.cell? ⟨n, 5, none⟩ = some (.int .i64 (-1)) ∧ X.cell? ⟨n, 6, none⟩ = some (.int .i64 15) ∧ X.cell? ⟨n, 7, none⟩ = some (.int .i64 1099511627776) ∧ X.cell? ⟨n, 8, none⟩ = some (.int .i64 7) ∧ X.cell? ⟨n, 9, none⟩ = some (.int .i64 0) := by
  refine ⟨?_, ?_, ?_, ?_, ?_, ?_, ?_, ?_, ?_, ?_⟩ <;> (simp only [World.cell?, h]; rfl)
theorem l0_tail {X : World} {n : Nat} (h : X.heap[n]? = some (.cells #[.int .i64 2, .int .i64 1, .int .i64 (-1), .int .i64 10, .int .i64 20, .int .i64 (-1), .int .i64 15, .int .i64 1099511627776, .int .i64 7, .int .i64 0, .int .i64 5, .int .i64 1, .int .i64 (-1), .int .i64 10, .int .i64 20, .int .i64 (-1), .int .i64 15, .int .i64 1099511627776, .int .i64 9, .int .i64 0] 24 (0, 0))) : IsHs X (.slice (some ⟨n, 10, none⟩) 1 1) [strikeH 5 9] := by
  refine ⟨_, 1, rfl, fun _ => ⟨n, 10, rfl, (Array.getElem?_eq_some_iff.1 h).1, fun i hi => ?_⟩⟩
  rw [World.cell?]
  simp only [h]
  simp [encH, strikeH] at hi
  rcases i with _ | _ | _ | _ | _ | _ | _ | _ | _ | _ | i <;> first | rfl | omega
theorem l0_head {X : World} {n : Nat} (h : X.heap[n]? = some (.cells #[.int .i64 2, .int .i64 1, .int .i64 (-1), .int .i64 10, .int .i64 20, .int .i64 (-1), .int .i64 15, .int .i64 1099511627776, .int .i64 7, .int .i64 0, .int .i64 5, .int .i64 1, .int .i64 (-1), .int .i64 10, .int .i64 20, .int .i64 (-1), .int .i64 15, .int .i64 1099511627776, .int .i64 9, .int .i64 0] 24 (0, 0))) : IsHs X (.slice (some ⟨n, 0, none⟩) 1 2) [strikeH 2 7] := by
  refine ⟨_, 2, rfl, fun _ => ⟨n, 0, rfl, (Array.getElem?_eq_some_iff.1 h).1, fun i hi => ?_⟩⟩
  rw [World.cell?]
  simp only [h]
  simp [encH, strikeH] at hi
  rcases i with _ | _ | _ | _ | _ | _ | _ | _ | _ | _ | i <;> first | rfl | omega

set_option maxHeartbeats 8000000 in
set_option maxRecDepth 100000 in
theorem sane35_any (w : World) : Calls Try.prog 14 #[] w (BPost true w) := by
  go_enter Try.func14, Try.ntmps14
  go_wp2_with (fail)
  refine (strike_any 2 7 w).mono ?_
  rintro e w1 ⟨rfl, b1⟩
  have B1 := Lib.hid b1
  clear b1
  go_wp2_with (fail)
  refine (strike_any 5 9 w1).mono ?_
  rintro e w2 ⟨rfl, b2⟩
  have B2 := Lib.hid (B1.out.up b2)
  clear b2 B1
  simp only [vH, strikeH]
  go_wp2_with (fail)
  have HB := Lib.hid (B2.out.up (al1 w2 (.cells #[.int .i64 2, .int .i64 1, .int .i64 (-1), .int .i64 10, .int .i64 20, .int .i64 (-1), .int .i64 15, .int .i64 1099511627776, .int .i64 7, .int .i64 0, .int .i64 5, .int .i64 1, .int .i64 (-1), .int .i64 10, .int .i64 20, .int .i64 (-1), .int .i64 15, .int .i64 1099511627776, .int .i64 9, .int .i64 0] 24)))
  have HIS := Lib.hid (hs_lit w2 [strikeH 2 7, strikeH 5 9] 2 #[.int .i64 2, .int .i64 1, .int .i64 (-1), .int .i64 10, .int .i64 20, .int .i64 (-1), .int .i64 15, .int .i64 1099511627776, .int .i64 7, .int .i64 0, .int .i64 5, .int .i64 1, .int .i64 (-1), .int .i64 10, .int .i64 20, .int .i64 (-1), .int .i64 15, .int .i64 1099511627776, .int .i64 9, .int .i64 0] rfl rfl)
  obtain ⟨n, hn⟩ : ∃ n, w2.heap.size = n := ⟨_, rfl⟩
  obtain ⟨W, hW⟩ : ∃ W, w2.alloc (.cells #[.int .i64 2, .int .i64 1, .int .i64 (-1), .int .i64 10, .int .i64 20, .int .i64 (-1), .int .i64 15, .int .i64 1099511627776, .int .i64 7, .int .i64 0, .int .i64 5, .int .i64 1, .int .i64 (-1), .int .i64 10, .int .i64 20, .int .i64 (-1), .int .i64 15, .int .i64 1099511627776, .int .i64 9, .int .i64 0] 24) = W := ⟨_, rfl⟩
  have hWb : W.heap[n]? = some (.cells #[.int .i64 2, .int .i64 1, .int .i64 (-1), .int .i64 10, .int .i64 20, .int .i64 (-1), .int .i64 15, .int .i64 1099511627776, .int .i64 7, .int .i64 0, .int .i64 5, .int .i64 1, .int .i64 (-1), .int .i64 10, .int .i64 20, .int .i64 (-1), .int .i64 15, .int .i64 1099511627776, .int .i64 9, .int .i64 0] 24 (0, 0)) := by rw [← hW, ← hn]; exact World.alloc_heap_new _ _
  rw [hW] at HB HIS
  rw [hn] at HIS
  have KB := Lib.hid (fun (X : World) (hb : Below W.heap.size W X) => (hb.block n (Array.getElem?_eq_some_iff.1 hWb).1).trans hWb)
  have KS := Lib.hid (fun (X : World) (hb : Below W.heap.size W X) => l0_cells (KB.out X hb))
  have KV := Lib.hid (fun (X : World) (hb : Below W.heap.size W X) => HIS.out.upb hb)
  rw [hW]
  try rw [hn]
  clear hW hn hWb B2 HIS
  refine (Standing_is (e0 := 0) (L := [strikeH 2 7]) (by decide +kernel) (by decide +kernel) (KV.out _ (Below.refl _ _)) (by decide)).mono ?_
  rintro e w3 ⟨v1, rfl, o1, b1⟩
  have B3 := Lib.hid b1
  have HO1 := Lib.hid o1.hs
  obtain ⟨A1, c1, rfl⟩ := ownH_slice o1
  clear b1 o1
  go_wp2_with (fail)
  refine (Standing_is (e0 := 0) (L := []) (by decide +kernel) (by decide +kernel) (KV.out _ B3.out) (by decide)).mono ?_
  rintro e w4 ⟨v2, rfl, o1, b1⟩
  have B4 := Lib.hid (B3.out.up b1)
  have HO1 := Lib.hid (HO1.out.upb b1)
  obtain ⟨A2, c2, rfl⟩ := ownH_slice o1
  clear b1 o1
  dsimp only [List.length_nil, List.length_cons]
  go_wp2_with (fail)
  refine (Standing_is (e0 := 1) (L := []) (l := []) (by decide +kernel) (by decide +kernel) IsHs.nil (by decide)).mono ?_
  rintro e w5 ⟨v3, rfl, o1, b1⟩
  have B5 := Lib.hid (B4.out.up b1)
  have HO1 := Lib.hid (HO1.out.upb b1)
  clear b1 o1
  obtain ⟨q0, q1, q2, q3, q4, q5, q6, q7, q8, q9⟩ := KS.out _ B5.out
  go_wp2_with (fail)
  refine (Covers_is (h := strikeH 2 7) (q := ⟨3, 10, 4, 15, 0⟩) (b := true) (x := 0) (by decide +kernel) (by decide +kernel) _).mono ?_
  rintro e w6 ⟨rfl, b1⟩
  have B6 := Lib.hid (B5.out.up b1)
  have HO1 := Lib.hid (HO1.out.upb b1)
  clear b1 q0 q1 q2 q3 q4 q5 q6 q7 q8 q9

  obtain ⟨q0, q1, q2, q3, q4, q5, q6, q7, q8, q9⟩ := KS.out _ B6.out
  go_wp2_with (fail)
  refine (Covers_is (h := strikeH 2 7) (q := ⟨3, 10, 4, 14, 0⟩) (b := false) (x := 0) (by decide +kernel) (by decide +kernel) _).mono ?_
  rintro e w7 ⟨rfl, b1⟩
  have B7 := Lib.hid (B6.out.up b1)
  have HO1 := Lib.hid (HO1.out.upb b1)
  clear b1 q0 q1 q2 q3 q4 q5 q6 q7 q8 q9

  go_wp2_with (fail)
  refine (Covers_is (h := ⟨0, 0, 0, 0, 0, 0, 0, 0, 0, 0⟩) (q := ⟨0, 0, 0, 0, 0⟩) (b := false) (x := 350) (by decide +kernel) (by decide +kernel) _).mono ?_
  rintro e w8 ⟨rfl, b1⟩
  have B8 := Lib.hid (B7.out.up b1)
  have HO1 := Lib.hid (HO1.out.upb b1)
  clear b1
  obtain ⟨q0, q1, q2, q3, q4, q5, q6, q7, q8, q9⟩ := KS.out _ B8.out
  go_wp2_with (fail)
  refine (Covers_is (h := strikeH 2 7) (q := ⟨64, 10, 4, 15, 0⟩) (b := false) (x := 1) (by decide +kernel) (by decide +kernel) _).mono ?_
  rintro e w9 ⟨rfl, b1⟩
  have B9 := Lib.hid (B8.out.up b1)
  have HO1 := Lib.hid (HO1.out.upb b1)
  clear b1 q0 q1 q2 q3 q4 q5 q6 q7 q8 q9

  go_wp2_with (fail)
  have B9d := Lib.hid (show Below W.heap.size W w9.drew from below_drewN B9.out 1)
  have HO1 := Lib.hid (show IsHs w9.drew _ _ from HO1.out)
  go_region_held3 (fun X => X.cell? ⟨n, 0, none⟩ = some (.int .i64 2) ∧ X.cell? ⟨n, 1, none⟩ = some (.int .i64 1) ∧ X.cell? ⟨n, 2, none⟩ = some (.int .i64 (-1)) ∧ X.cell? ⟨n, 3, none⟩ = some (.int .i64 10) ∧ X.cell? ⟨n, 4, none⟩ = some (.int .i64 20) ∧ X.cell? ⟨n, 5, none⟩ = some (.int .i64 (-1)) ∧ X.cell? ⟨n, 6, none⟩ = some (.int .i64 15) ∧ X.cell? ⟨n, 7, none⟩ = some (.int .i64 1099511627776) ∧ X.cell? ⟨n, 8, none⟩ = some (.int .i64 7) ∧ X.cell? ⟨n, 9, none⟩ = some (.int .i64 0))
    (first
      | exact KS.out _ B9d.out
      | exact KS.out _ B10.out)
    (first
      | (go_at_call 16
         refine (Add_is (x := strikeH 2 7) (e0 := 0) (L := [strikeH 2 7, strikeH 5 9]) (by decide +kernel) (by decide +kernel) (l0_tail (KB.out _ B9d.out)) (by decide)).mono ?_
         rintro e w10 ⟨v4, rfl, o1, b1⟩
         have B10 := Lib.hid (B9d.out.up b1)
         have HO1 := Lib.hid (HO1.out.upb b1)
         have HO4 := Lib.hid o1.hs
         obtain ⟨A4, c4, rfl⟩ := ownH_slice o1
         clear b1 o1))
  all_goals
    try dsimp only [List.length_nil, List.length_cons]
    go_wp2_with (fail)
    refine (strike_any 5 0 w10).mono ?_
    rintro e w11 ⟨rfl, b1⟩
    have B11 := Lib.hid (B10.out.up b1)
    have HO1 := Lib.hid (HO1.out.upb b1)
    have HO4 := Lib.hid (HO4.out.upb b1)
    clear b1
    go_wp2_with (fail)
    refine (Add_is (x := strikeH 5 0) (e0 := 181) (L := []) (by decide +kernel) (by decide +kernel) (KV.out _ B11.out) (by decide)).mono ?_
    rintro e w12 ⟨v5, rfl, o1, b1⟩
    have B12 := Lib.hid (B11.out.up b1)
    have HO1 := Lib.hid (HO1.out.upb b1)
    have HO4 := Lib.hid (HO4.out.upb b1)
    clear b1 o1
    go_wp2_with (fail)
    refine (strike_any 0 0 w12).mono ?_
    rintro e w13 ⟨rfl, b1⟩
    have B13 := Lib.hid (B12.out.up b1)
    have HO1 := Lib.hid (HO1.out.upb b1)
    have HO4 := Lib.hid (HO4.out.upb b1)
    clear b1
    have HBX := Lib.hid (BoxH.new w13 ⟨0, 3, -1, 10, 20, -1, 15, 1099511627776, 0, 0⟩)
    have B13 := Lib.hid (B13.out.up (al1 w13 (.cells #[.int .i64 0, .int .i64 3, .int .i64 (-1), .int .i64 10, .int .i64 20, .int .i64 (-1), .int .i64 15, .int .i64 1099511627776, .int .i64 0, .int .i64 0] 24)))
    have HO1 := Lib.hid (HO1.out.upb (al1 w13 (.cells #[.int .i64 0, .int .i64 3, .int .i64 (-1), .int .i64 10, .int .i64 20, .int .i64 (-1), .int .i64 15, .int .i64 1099511627776, .int .i64 0, .int .i64 0] 24)))
    have HO4 := Lib.hid (HO4.out.upb (al1 w13 (.cells #[.int .i64 0, .int .i64 3, .int .i64 (-1), .int .i64 10, .int .i64 20, .int .i64 (-1), .int .i64 15, .int .i64 1099511627776, .int .i64 0, .int .i64 0] 24)))
    simp only [vH, strikeH]
    go_wp2_with (fail)
    refine (same_is (b := true) (by decide +kernel) HO1.out (l0_head (KB.out _ B13.out)) (by decide) (by decide)).mono ?_
    rintro e w14 ⟨rfl, b1⟩
    have B14 := Lib.hid (B13.out.up b1)
    have HBX := Lib.hid (HBX.out.upb b1)
    have HO4 := Lib.hid (HO4.out.upb b1)
    clear b1
    go_wp2_with (fail)
    refine (same_is (b := true) (by decide +kernel) HO4.out (KV.out _ B14.out) (by decide) (by decide)).mono ?_
    rintro e w15 ⟨rfl, b1⟩
    have B15 := Lib.hid (B14.out.up b1)
    have HBX := Lib.hid (HBX.out.upb b1)
    clear b1
    go_wp2_with (fail)
    refine (Check_is (x := 0) (l := []) (by decide +kernel) IsHs.nil (by decide)).mono ?_
    rintro e w16 ⟨rfl, b1⟩
    have B16 := Lib.hid (B15.out.up b1)
    have HBX := Lib.hid (HBX.out.upb b1)
    clear b1
    go_wp2_with (fail)
    refine (Check_is (x := 0) (by decide +kernel) (KV.out _ B16.out) (by decide)).mono ?_
    rintro e w17 ⟨rfl, b1⟩
    have B17 := Lib.hid (B16.out.up b1)
    have HBX := Lib.hid (HBX.out.upb b1)
    clear b1
    obtain ⟨q0, q1, q2, q3, q4, q5, q6, q7, q8, q9⟩ := HBX.out.ten
    dsimp only at q0 q1 q2 q3 q4 q5 q6 q7 q8 q9
    go_wp2_with (fail)
    refine (Check_is (x := 350) (by decide +kernel) (hs_lit w17 [⟨0, 3, -1, 10, 20, -1, 15, 1099511627776, 0, 0⟩] 1 _ rfl rfl) (by decide)).mono ?_
    rintro e w18 ⟨rfl, b1⟩
    have B18 := Lib.hid ((B17.out.up (al1 _ _)).up b1)
    clear b1
    go_wp2_with (fail)
    go_ret
    exact ⟨rfl, HB.out.up B18.out⟩

end Go.Proofs.Ytninnpcggeofmaa

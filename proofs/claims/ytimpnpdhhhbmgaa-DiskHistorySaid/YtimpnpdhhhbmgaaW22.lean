/- Walks of New, of both sides. -/
import Derived.Test.YtimpnpdhhhbmgaaW21
namespace Go.Proofs.Ytimpnpdhhhbmgaa
open Go.RowKit
set_option linter.unusedVariables false
set_option linter.unusedSimpArgs false

theorem rep_bs {W : World} {g z n : Nat} (h : Cells W g 35 (List.replicate n (.slice (some ⟨z, 0, none⟩) 128 128))) (hz : Cells W z 5 (Dv.zs.map encB)) : IsBs W (.slice (some ⟨g, 0, none⟩) n n) (List.replicate n Dv.zs) := by
  refine ⟨some ⟨g, 0, none⟩, n, List.replicate n (.slice (some ⟨z, 0, none⟩) 128 128), by rw [List.length_replicate], by rw [List.length_replicate]; exact Nat.le_refl _, by rw [List.length_replicate, List.length_replicate], fun _ => ⟨g, 0, rfl, h.lt, fun i hi => ?_⟩, fun i h1 h2 => ?_⟩
  · rw [Nat.zero_add]; exact h.cell (List.getElem?_eq_getElem hi)
  · rw [List.getElem_replicate, List.getElem_replicate]
    exact bytes_cells hz (show 128 = Dv.zs.length from (List.length_replicate ..).symm) (Nat.le_refl _)

set_option maxHeartbeats 4000000 in
theorem New_any {n : Int} {w : World} :
    Calls Try.prog 12 #[.int .i64 n] w fun e w' => ∃ x, e = .returned (.tuple #[x, .int .i64 (Dv.nwE n)]) ∧ IsD w' x (Dv.nw n) ∧ Below w.heap.size w w' := by
  have HZ := Lib.hid (Cells.new w 25 [.slice none 0 0, .slice none 0 0, .int .i64 0, .bool false])
  have HB := Lib.hid (al1 w (.cells #[.slice none 0 0, .slice none 0 0, .int .i64 0, .bool false] 25))
  by_cases h : 1 ≤ n ∧ n ≤ 4096
  · have HE := Lib.hid (show Dv.nwE n = 0 from if_pos h)
    obtain ⟨k, rfl⟩ : ∃ k : Nat, n = k := ⟨n.toNat, by omega⟩
    have HR := Lib.hid (show Dv.nw k = ⟨List.replicate k Dv.zs, [], -1, false⟩ by unfold Dv.nw; rw [if_pos h]; simp)
    have d1 : decide ((k : Int) < 1) = false := decide_eq_false (by omega)
    have d2 : decide ((4096 : Int) < (k : Int)) = false := decide_eq_false (by omega)
    have HK := Lib.hid (show 1 ≤ k ∧ k ≤ 4096 by omega)
    obtain ⟨ZL, hZL, hmk⟩ := make_zs
    have HZL := Lib.hid hZL
    clear hZL h
    rw [HE.out, HR.out]
    go_enter Try.func12, Try.ntmps12
    go_wp2_with (fail)
    obtain ⟨X, hX⟩ : ∃ X, ((w.alloc (.cells #[.slice none 0 0, .slice none 0 0, .int .i64 0, .bool false] 25)).alloc (.cells ZL.toArray 5)).alloc (.cells #[.slice (some ⟨w.heap.size + 1, 0, none⟩) 128 128] 35) = X := ⟨_, rfl⟩
    have HX5 := Lib.hid (show Cells X (w.heap.size + 1) 5 ZL from by
      rw [← hX]
      have := (Cells.new (w.alloc (.cells #[.slice none 0 0, .slice none 0 0, .int .i64 0, .bool false] 25)) 5 ZL).upb (al1 _ (.cells #[.slice (some ⟨w.heap.size + 1, 0, none⟩) 128 128] 35))
      simpa using this)
    have HXR := Lib.hid (show Cells X (w.heap.size + 1 + 1) 35 [.slice (some ⟨w.heap.size + 1, 0, none⟩) 128 128] from by
      rw [← hX]
      have := Cells.new ((w.alloc (.cells #[.slice none 0 0, .slice none 0 0, .int .i64 0, .bool false] 25)).alloc (.cells ZL.toArray 5)) 35 [.slice (some ⟨w.heap.size + 1, 0, none⟩) 128 128]
      simpa using this)
    have HXB := Lib.hid (show Below (w.alloc (.cells #[.slice none 0 0, .slice none 0 0, .int .i64 0, .bool false] 25)).heap.size (w.alloc (.cells #[.slice none 0 0, .slice none 0 0, .int .i64 0, .bool false] 25)) X from by
      rw [← hX]; exact (al1 _ _).up (al1 _ _))
    rw [hX]
    clear hX
    refine (Repeat_any (HXR.out.cell (k := 0) rfl) HK.out.1 HK.out.2).mono ?_
    rintro e w2 ⟨g, rfl, hg, hc, hb⟩
    have HC := Lib.hid hc
    have HZ2 := Lib.hid ((HZ.out.upb HXB.out).upb hb)
    have H5 := Lib.hid (HX5.out.upb hb)
    have HB2 := Lib.hid ((HB.out.up HXB.out).up hb)
    have hxlt := HXR.out.lt
    have HG := Lib.hid (show g ≠ w.heap.size by omega)
    clear hc hb hg hxlt
    have hzw := HZ2.out.lt
    have z0 := HZ2.out.cell (k := 0) rfl
    have z1 := HZ2.out.cell (k := 1) rfl
    have z2 := HZ2.out.cell (k := 2) rfl
    have z3 := HZ2.out.cell (k := 3) rfl
    have f0 := HZ2.out.frozen 0
    have f1 := HZ2.out.frozen 1
    have f2 := HZ2.out.frozen 2
    have f3 := HZ2.out.frozen 3
    go_wp2_with (fail)
    refine bodyPost_ret (dk_out rfl rfl rfl (HZ2.out.set4 (.slice (some ⟨g, 0, none⟩) k k) (.slice none 0 0) (.int .i64 (-1)) (.bool false))) rfl ?_
    have hgr := grown_set4 w2 w.heap.size (.slice (some ⟨g, 0, none⟩) k k) (.slice none 0 0) (.int .i64 (-1)) (.bool false)
    exact ⟨_, rfl, isD_mk (rep_bs (grownK HC.out hgr HG.out) (by rw [← HZL.out]; exact grownK H5.out hgr (by omega))) IsWs.nil, below_set4 HB2.out (Nat.le_refl _) _ _ _ _⟩
  · have HE := Lib.hid (show Dv.nwE n = 1 from if_neg h)
    have HR := Lib.hid (show Dv.nw n = d0 from if_neg h)
    rw [HE.out, HR.out]
    have z0 := HZ.out.cell (k := 0) rfl
    have z1 := HZ.out.cell (k := 1) rfl
    have z2 := HZ.out.cell (k := 2) rfl
    have z3 := HZ.out.cell (k := 3) rfl
    have f0 := HZ.out.frozen 0
    have f1 := HZ.out.frozen 1
    have f2 := HZ.out.frozen 2
    have f3 := HZ.out.frozen 3
    by_cases h1 : n < 1
    · have d1 : decide (n < 1) = true := decide_eq_true h1
      clear h h1
      go_enter Try.func12, Try.ntmps12
      go_wp2_with (fail)
      refine bodyPost_ret (dk_out rfl rfl rfl HZ.out) rfl ?_
      exact ⟨_, rfl, IsD.zero, HB.out⟩
    · have d1 : decide (n < 1) = false := decide_eq_false h1
      have d2 : decide (4096 < n) = true := decide_eq_true (by omega)
      clear h h1
      go_enter Try.func12, Try.ntmps12
      go_wp2_with (fail)
      refine bodyPost_ret (dk_out rfl rfl rfl HZ.out) rfl ?_
      exact ⟨_, rfl, IsD.zero, HB.out⟩

set_option maxHeartbeats 4000000 in
theorem refNew_any {n : Int} {w : World} :
    Calls Try.prog 13 #[.int .i64 n] w fun e w' => ∃ x, e = .returned (.tuple #[x, .int .i64 (Dv.nwE n)]) ∧ IsD w' x (Dv.nw n) ∧ Below w.heap.size w w' := by
  have HZ := Lib.hid (Cells.new w 25 [.slice none 0 0, .slice none 0 0, .int .i64 0, .bool false])
  have HB := Lib.hid (al1 w (.cells #[.slice none 0 0, .slice none 0 0, .int .i64 0, .bool false] 25))
  by_cases h : 1 ≤ n ∧ n ≤ 4096
  · have HE := Lib.hid (show Dv.nwE n = 0 from if_pos h)
    obtain ⟨k, rfl⟩ : ∃ k : Nat, n = k := ⟨n.toNat, by omega⟩
    have HR := Lib.hid (show Dv.nw k = ⟨List.replicate k Dv.zs, [], -1, false⟩ by unfold Dv.nw; rw [if_pos h]; simp)
    have d1 : decide ((k : Int) < 1) = false := decide_eq_false (by omega)
    have d2 : decide ((4096 : Int) < (k : Int)) = false := decide_eq_false (by omega)
    have HK := Lib.hid (show 1 ≤ k ∧ k ≤ 4096 by omega)
    have hk4 : (k : Int) ≤ 4096 := by omega
    clear h
    rw [HE.out, HR.out]
    go_enter Try.func13, Try.ntmps13
    go_wp2_with (fail)
    obtain ⟨w1, hw1⟩ : ∃ w1, w.alloc (.cells #[.slice none 0 0, .slice none 0 0, .int .i64 0, .bool false] 25) = w1 := ⟨_, rfl⟩
    have hsz : w1.heap.size = w.heap.size + 1 := by rw [← hw1]; simp
    rw [hw1] at HZ HB ⊢
    clear hw1
    have HN0 := Lib.hid (show Nw w1 (w1.alloc (.cells #[.slice none 0 0, .slice none 0 0, .int .i64 (-1), .bool false] 25)) w1.heap.size (.slice none 0 0) [] from ⟨Cells.new w1 25 [.slice none 0 0, .slice none 0 0, .int .i64 (-1), .bool false], ownS_nil _ _, al1 _ _, Nat.le_refl _⟩)
    rw [← hsz]
    obtain ⟨B1, hB1⟩ : ∃ B1, w1.heap.size = B1 := ⟨_, rfl⟩
    simp only [hB1] at HN0 ⊢
    go_loopw [5] (fun i wr => ∃ (j : Nat) (A : Option Addr) (c : Nat), i = .int .i64 j ∧ j ≤ k ∧ Hid (Nw w1 wr B1 (.slice A j c) (List.replicate j Dv.zs))) (fun i _ => k - (intOf i).toNat)
    case atStart => exact ⟨0, none, 0, rfl, Nat.zero_le _, HN0⟩
    case round =>
      obtain ⟨j, A, c, rfl, hj, HNw⟩ := hrel
      by_cases hlt : j < k
      · have hjd : decide ((j : Int) < (k : Int)) = true := decide_eq_true (by omega)
        go_wp2_with (fail)
        refine new_region HNw.out (by simp) (by have := HK.out.2; omega) ?_
        rintro A2 c2 X hX
        have HX := Lib.hid (show Nw w1 X B1 (.slice A2 (j + 1) c2) (List.replicate (j + 1) Dv.zs) by rw [List.replicate_succ']; exact hX)
        clear hX
        go_wp2_with (fail)
        go_roundw
        case rel => exact ⟨j + 1, A2, c2, by go_num, by omega, HX⟩
        case measure => first | omega | (simp [intOf]; done) | (simp [intOf]; omega)
      · obtain rfl : j = k := by omega
        have hjd : decide ((j : Int) < (j : Int)) = false := decide_eq_false (by omega)
        have HZ2 := Lib.hid (HZ.out.upb HNw.out.bel)
        have HB2 := Lib.hid (HB.out.up HNw.out.bel)
        have hzw := HZ2.out.lt
        have z0 := HZ2.out.cell (k := 0) rfl
        have z1 := HZ2.out.cell (k := 1) rfl
        have z2 := HZ2.out.cell (k := 2) rfl
        have z3 := HZ2.out.cell (k := 3) rfl
        have f0 := HZ2.out.frozen 0
        have f1 := HZ2.out.frozen 1
        have f2 := HZ2.out.frozen 2
        have f3 := HZ2.out.frozen 3
        have c0 := HNw.out.b.cell (k := 0) rfl
        have c1 := HNw.out.b.cell (k := 1) rfl
        have c2 := HNw.out.b.cell (k := 2) rfl
        have c3 := HNw.out.b.cell (k := 3) rfl
        go_wp2_with (fail)
        refine bodyPost_ret (dk_out rfl rfl rfl (HZ2.out.set4 (.slice A j c) (.slice none 0 0) (.int .i64 (-1)) (.bool false))) rfl ?_
        have hgr := grown_set4 wr w.heap.size (.slice A j c) (.slice none 0 0) (.int .i64 (-1)) (.bool false)
        exact ⟨_, rfl, isD_mk (HNw.out.o.box HZ2.out hgr).is IsWs.nil, below_set4 HB2.out (Nat.le_refl _) _ _ _ _⟩
  · have HE := Lib.hid (show Dv.nwE n = 1 from if_neg h)
    have HR := Lib.hid (show Dv.nw n = d0 from if_neg h)
    rw [HE.out, HR.out]
    have z0 := HZ.out.cell (k := 0) rfl
    have z1 := HZ.out.cell (k := 1) rfl
    have z2 := HZ.out.cell (k := 2) rfl
    have z3 := HZ.out.cell (k := 3) rfl
    have f0 := HZ.out.frozen 0
    have f1 := HZ.out.frozen 1
    have f2 := HZ.out.frozen 2
    have f3 := HZ.out.frozen 3
    by_cases h1 : n < 1
    · have d1 : decide (n < 1) = true := decide_eq_true h1
      clear h h1
      go_enter Try.func13, Try.ntmps13
      go_wp2_with (fail)
      refine bodyPost_ret (dk_out rfl rfl rfl HZ.out) rfl ?_
      exact ⟨_, rfl, IsD.zero, HB.out⟩
    · have d1 : decide (n < 1) = false := decide_eq_false h1
      have d2 : decide (4096 < n) = true := decide_eq_true (by omega)
      clear h h1
      go_enter Try.func13, Try.ntmps13
      go_wp2_with (fail)
      refine bodyPost_ret (dk_out rfl rfl rfl HZ.out) rfl ?_
      exact ⟨_, rfl, IsD.zero, HB.out⟩
end Go.Proofs.Ytimpnpdhhhbmgaa

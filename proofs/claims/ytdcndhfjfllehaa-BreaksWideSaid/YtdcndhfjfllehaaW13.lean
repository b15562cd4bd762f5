/- Walk of Prove. -/
import Derived.Test.YtdcndhfjfllehaaW12
namespace Go.Proofs.Ytdcndhfjfllehaa
open Go.RowKit
set_option linter.unusedVariables false
set_option linter.unusedSimpArgs false

theorem txt_cells {w w1 w2 : World} {a b c : Value} (h1 : Below w.heap.size w w1) (hb : Below (w1.alloc (.cells #[a, b, c] 42)).heap.size (w1.alloc (.cells #[a, b, c] 42)) w2) :
    w2.cell? ⟨w1.heap.size, 0, none⟩ = some a ∧ w2.cell? ⟨w1.heap.size, 1, none⟩ = some b ∧ w2.cell? ⟨w1.heap.size, 2, none⟩ = some c ∧ Below w.heap.size w w2 := by
  have ht2 : w2.heap[w1.heap.size]? = some (.cells #[a, b, c] 42 (0, 0)) := (hb.block _ (by simp)).trans (World.alloc_heap_new w1 _)
  exact ⟨by simp [World.cell?, ht2], by simp [World.cell?, ht2], by simp [World.cell?, ht2], (h1.up (al1 w1 _)).up hb⟩
set_option maxHeartbeats 4000000 in
set_option maxRecDepth 100000 in
theorem prove_any (xs : List Int) (A : Option Addr) (cap : Nat) (sp rm : Int) (w : World) (hv : IsInts w (.slice A xs.length cap) xs) (hl : xs.length ≤ 9223372036854775807) :
    Calls Try.prog 13 #[.slice A xs.length cap, .int .i64 sp, .int .i64 rm] w (PrPost xs sp rm w) := by
  have HV := Lib.hid hv
  clear hv
  have HC := Lib.hid (check_any xs A cap sp rm w HV.out hl)
  by_cases he : Bk.err xs sp rm = 0
  · have HR := Lib.hid (Bk.err_rt he)
    rw [txt, if_pos he, he] at HC
    by_cases hw : Bk.wide xs rm = true
    · have HO := Lib.hid (okB_wide (sp := sp) hw)
      have HX := Lib.hid (show hsL xs sp rm = [] by rw [hsL, if_neg (by rw [HO.out]; simp)])
      go_enter Try.func13, Try.ntmps13
      go_wp2_with (go_at_call 22; refine HC.out.mono ?_; rintro e w1 ⟨rfl, hb1⟩; have HB1 := Lib.hid hb1; clear hb1)
      go_wp2_with (go_at_call 23; refine (possible_any xs A cap sp rm _ (HV.out.below (HB1.out.up (al1 _ _))) hl).mono ?_; rintro e w2 ⟨rfl, hb2⟩; have HB2 := Lib.hid hb2; clear hb2; rw [hw])
      go_ret3
      exact ⟨none, 0, by rw [HX.out, HO.out, he]; rfl, by rw [HX.out]; exact IsInts.nil, (HB1.out.up (al1 _ _)).up HB2.out⟩
    · have hw' : Bk.wide xs rm = false := by simpa using hw
      have HO := Lib.hid (okB_yes he hw')
      have HOK := Lib.hid (HR.out.ok hw')
      have HX := Lib.hid (show hsL xs sp rm = Bk.tab sp rm xs by rw [hsL, if_pos HO.out])
      have hn := HR.out.len
      go_enter Try.func13, Try.ntmps13
      go_wp2_with (go_at_call 22; refine HC.out.mono ?_; rintro e w1 ⟨rfl, hb1⟩; have HB1 := Lib.hid hb1; clear hb1)
      go_wp2_with (go_at_call 23; refine (possible_any xs A cap sp rm _ (HV.out.below (HB1.out.up (al1 _ _))) hl).mono ?_; rintro e w2 ⟨rfl, hb2⟩; rw [hw']; obtain ⟨h20, h21, h22, hbx⟩ := txt_cells (HB1.out) hb2; have HB2 := Lib.hid hbx; clear hb2 hbx)
      go_wp2_with (go_at_call 24; refine (solve_any xs A cap sp rm _ (HV.out.below HB2.out) HR.out HOK.out).mono ?_; rintro e w3 ⟨g, es, rfl, hp3, hl3, hes, hb3⟩; have HP3 := Lib.hid hp3; have HES := Lib.hid hes; have HB3 := Lib.hid (HB2.out.up hb3); clear hp3 hes hb3 h20 h21 h22)
      go_loopw [6, 30] (fun v i wr => ∃ k : Nat, k ≤ xs.length + 1 ∧ i = .int .i64 k ∧ Hid (OwnInts wr w3.heap.size v ((Bk.tab sp rm xs).take k)) ∧ Hid (Below w3.heap.size w3 wr)) (fun _ i _ => xs.length + 1 - (intOf i).toNat)
      case atStart => exact ⟨0, by omega, rfl, by rw [List.take_zero]; exact own_none _ _, Below.refl _ _⟩
      case round =>
        obtain ⟨k, hk, rfl, HOw, HBw⟩ := hrel
        have HTL := Lib.hid (show (Bk.tab sp rm xs).length = xs.length + 1 from Bk.tab_len _ _ _)
        by_cases hlt : k < xs.length + 1
        · have hkt : k < (Bk.tab sp rm xs).length := by rw [HTL.out]; exact hlt
          obtain ⟨hc0, hi0⟩ := HES.out k (by omega)
          have hpr := HP3.out.keep (HBw.out.block g HP3.out.lt)
          have h30 := hpr.c0 (k := k) (by omega)
          have h31 := hpr.c1 (k := k) (by omega)
          have hat : es[k].1 = (Bk.tab sp rm xs)[k] := by rw [hc0, ← Bk.tab_at _ _ _ k (by omega), Bk.at_eq _ _ hkt]
          rw [hat] at h30
          obtain ⟨Av, cv, hev, hjk⟩ := id hi0
          rw [hev] at h31
          have htl : ((Bk.tab sp rm xs).take k).length = k := by rw [List.length_take]; omega
          have HTS := Lib.hid (show (Bk.tab sp rm xs).take (k + 1) = (Bk.tab sp rm xs).take k ++ [(Bk.tab sp rm xs)[k]] from List.take_succ_eq_append_getElem hkt)
          obtain ⟨Ax, cx, hvx⟩ := own_len HOw.out
          rw [htl] at hvx
          subst hvx
          have HSZ := Lib.hid HBw.out.size
          clear hc0 hi0 hpr hat hjk
          generalize hy : (Bk.tab sp rm xs)[k] = y at *
          generalize (rev sp rm xs k).length = rl at *
          clear hev
          go_wp2_with (at_builtin; go_must (refine wpList_push rfl (.tmp 34) (.tmp 37) rfl w3.heap.size (.slice Ax k cx) ((Bk.tab sp rm xs).take k) rfl (own_alloc HOw.out _) y (wr.heap.size + 1) (by simp) rfl (by rw [htl]; omega) (by have := HSZ.out; simp only [World.size_alloc]; omega) ?_; intro v1 w1 hown1 hg1 _; have HO3 := Lib.hid hown1; have HG3 := Lib.hid hg1; clear hown1 hg1))
          go_roundw
          case rel => exact ⟨k + 1, by omega, by go_num, by rw [HTS.out]; exact HO3.out, ((HBw.out.alloc HSZ.out _).grown HG3.out (by have := HSZ.out; simp only [World.size_alloc]; omega) (fun j h => by have := (World.ownsRow.lt HOw.out j h).1; omega))⟩
          case measure => first | omega | (simp [intOf]; done) | (simp [intOf]; omega)
        · obtain rfl : k = xs.length + 1 := by omega
          rw [List.take_of_length_le (by rw [HTL.out]; exact Nat.le_refl _)] at HOw
          obtain ⟨Ax, cx, rfl⟩ := own_len HOw.out
          have hlt' : decide (((xs.length + 1 : Nat) : Int) < ((xs.length : Int) + 1)) = false := by simp
          rw [HTL.out] at HOw ⊢
          go_wp2
          go_ret3
          refine ⟨Ax, cx, ?_, by rw [HX.out, HTL.out]; exact OwnInts.ints HOw.out, HB3.out.up HBw.out⟩
          rw [HX.out, HTL.out, HO.out, he]; rfl
  · have HO := Lib.hid (okB_err he)
    have HX := Lib.hid (show hsL xs sp rm = [] by rw [hsL, if_neg (by rw [HO.out]; simp)])
    rw [txt, if_neg he] at HC
    have hne : (Bk.err xs sp rm != 0) = true := by simpa using he
    generalize hee : Bk.err xs sp rm = e at *
    go_enter Try.func13, Try.ntmps13
    go_wp2_with (go_at_call 22; refine HC.out.mono ?_; rintro e w1 ⟨rfl, hb1⟩; have HB1 := Lib.hid hb1; clear hb1)
    go_ret3
    exact ⟨none, 0, by rw [HX.out, HO.out, hee]; rfl, by rw [HX.out]; exact IsInts.nil, HB1.out.up (al1 _ _)⟩

end Go.Proofs.Ytdcndhfjfllehaa

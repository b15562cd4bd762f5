/- Walks of isSector, Check$1, Check$2, IndexFunc, ContainsFunc. Walks of IndexFunc, ContainsFunc, Check. Walk of Check. Walk of the reference's Check. Walks of runs, has, the reference's Read. -/
import Derived.Test.YtkcnanclpkongaaPA
import Derived.Laws.NewBlocks
import Derived.Laws.EntriesVeiled
namespace Go.Proofs.Ytkcnanclpkongaa
section
open Go.RowKit
set_option linter.unusedVariables false
set_option linter.unusedSimpArgs false
set_option maxRecDepth 20000

theorem sec_any {v : Value} {b : By} {w : World} (hv : IsBytes w v b) {c : Bool} (hc : ((b.length : Int) == 128) = c) :
    Calls Try.prog 56 #[v] w fun e w' => e = .returned (.bool c) ∧ w = w' := by
  obtain ⟨A, cap, rfl, _⟩ := hv
  go_enter Try.func56, Try.ntmps56
  go_wp2
  go_ret
  exact ⟨by first | rfl | exact ret_bool hc, rfl⟩
theorem len128 (b : By) : ((b.length : Int) == 128) = !Dv.badS b := by
  unfold Dv.badS
  by_cases h : b.length = 128
  · rw [h]; rfl
  · have h2 : ¬ (b.length : Int) = 128 := by omega
    rw [beq_false_of_ne h2]
    simp [bne, h]
theorem badS_any {v : Value} {b : By} {w : World} (hv : IsBytes w v b) :
    Calls Try.prog 59 #[v] w fun e w' => e = .returned (.bool (Dv.badS b)) ∧ w = w' := by
  have HV := Lib.hid hv
  obtain ⟨A, cap, rfl, _⟩ := id hv
  clear hv
  go_enter Try.func59, Try.ntmps59
  go_wp2_with (fail)
  refine (sec_any HV.out (len128 b)).mono ?_
  rintro e w' ⟨rfl, rfl⟩
  go_wp2_with (fail)
  go_ret
  exact ⟨ret_bool (by simp), rfl⟩

set_option maxHeartbeats 1000000 in
theorem badW_any {p : Wr} {v : Value} {B n : Nat} {w : World} (hv : IsBytes w v p.data) (hB : w.cell? ⟨B, 0, none⟩ = some (.int .i64 n)) :
    Calls Try.prog 55 #[.agg #[.int .i64 p.at_, v], .pointer (some ⟨B, 0, none⟩)] w fun e w' => e = .returned (.bool (Dv.badW n p)) ∧ Below w.heap.size w w' := by
  have HV := Lib.hid hv
  obtain ⟨A, cap, rfl, _⟩ := id hv
  have hlt := cell_lt hB
  have hlt' : B < w.heap.size := hlt
  clear hv hlt
  obtain ⟨c, hc⟩ : ∃ c, Dv.badW n p = c := ⟨_, rfl⟩
  rw [hc]
  have HC := Lib.hid hc
  clear hc
  by_cases h1 : p.at_ < 0
  · obtain rfl : c = true := by rw [← HC.out]; unfold Dv.badW; simp [h1]
    have d1 : decide (p.at_ < 0) = true := decide_eq_true h1
    go_enter Try.func55, Try.ntmps55
    go_wp2_with (fail)
    go_ret
    exact ⟨rfl, al1 _ _⟩
  have d1 : decide (p.at_ < 0) = false := decide_eq_false h1
  by_cases h2 : (n : Int) ≤ p.at_
  · obtain rfl : c = true := by rw [← HC.out]; unfold Dv.badW; simp [h2]
    have d2 : decide ((n : Int) ≤ p.at_) = true := decide_eq_true h2
    go_enter Try.func55, Try.ntmps55
    go_wp2_with (fail)
    go_ret
    exact ⟨rfl, al1 _ _⟩
  have d2 : decide ((n : Int) ≤ p.at_) = false := decide_eq_false h2
  have HE := Lib.hid (show Dv.badS p.data = c by rw [← HC.out]; unfold Dv.badW Dv.badS; simp [h1, h2])
  go_enter Try.func55, Try.ntmps55
  go_wp2_with (refine (sec_any (HV.out.upb (al1 w _)) (len128 p.data)).mono ?_; rintro e w' ⟨rfl, rfl⟩)
  go_ret
  exact ⟨ret_bool (by simp [HE.out]), al1 _ _⟩
end
section
open Go.RowKit
set_option linter.unusedVariables false
set_option linter.unusedSimpArgs false
set_option maxRecDepth 20000

theorem any_no {α : Type} {f : α → Bool} {l : List α} (h : ∀ j, (hj : j < l.length) → f l[j] = false) : l.any f = false := by
  rw [List.any_eq_false]
  intro x hx
  obtain ⟨j, hj, rfl⟩ := List.getElem_of_mem hx
  simp [h j hj]
theorem any_yes {α : Type} {f : α → Bool} {l : List α} {k : Nat} (hk : k < l.length) (h : f l[k] = true) : l.any f = true := by
  rw [List.any_eq_true]
  exact ⟨_, List.getElem_mem hk, h⟩

set_option maxHeartbeats 1000000 in
theorem idxW_any {ps : List Wr} {v : Value} {B n : Nat} {w : World} (hv : IsWs w v ps) (hB : w.cell? ⟨B, 0, none⟩ = some (.int .i64 n)) (hl : ps.length ≤ 4096) :
    Calls Try.prog 70 #[v, .func (.func 55) #[] #[.pointer (some ⟨B, 0, none⟩)]] w fun e w' => (∃ i : Int, e = .returned (.int .i64 i) ∧ decide (0 ≤ i) = ps.any (Dv.badW n)) ∧ Below w.heap.size w w' := by
  have HV := Lib.hid hv
  obtain ⟨A, cap, vs, rfl, _⟩ := id hv
  have hlt : B < w.heap.size := cell_lt hB
  clear hv
  go_enter Try.func70, Try.ntmps70
  go_wp2_with (fail)
  go_loopw [8] (fun i wr => ∃ k : Nat, i = .int .i64 k ∧ k ≤ ps.length ∧ Hid (∀ j, j < k → (hj : j < ps.length) → Dv.badW n ps[j] = false) ∧ Hid (Below w.heap.size w wr)) (fun i _ => ps.length - (intOf i).toNat)
  case atStart => exact ⟨0, rfl, Nat.zero_le _, Lib.hid (fun j h hj => by omega), Lib.hid (Below.refl _ _)⟩
  case round =>
    obtain ⟨k, rfl, hk, HN, HB⟩ := hrel
    by_cases hlt2 : k < ps.length
    · obtain ⟨b, off, A', c', rfl, hb, hc1, hc2, hc3⟩ := ws_at HV.out hlt2
      have h1 : wr.cell? ⟨b, off + k * 2, none⟩ = some (.int .i64 ps[k].at_) := by rw [(bcell HB.out).1 b _ hb, hc1]
      have h2 : wr.cell? ⟨b, off + k * 2 + 1, none⟩ = some (.slice A' ps[k].data.length c') := by rw [(bcell HB.out).1 b _ hb, hc2]
      have hB2 : wr.cell? ⟨B, 0, none⟩ = some (.int .i64 n) := by rw [(bcell HB.out).1 B 0 hlt, hB]
      have H3 := Lib.hid (hc3.upb HB.out)
      clear hc1 hc2 hc3
      have HP := Lib.hid (show ∀ c, Dv.badW n ps[k] = c → c = false → ∀ j, j < k + 1 → (hj : j < ps.length) → Dv.badW n ps[j] = false from fun c h h0 j hj hj2 => by
        rcases Nat.lt_or_ge j k with h3 | h3
        · exact HN.out j h3 hj2
        · obtain rfl : j = k := by omega
          rw [h, h0])
      have HY := Lib.hid (fun h => any_yes (f := Dv.badW n) hlt2 h)
      obtain ⟨x, hx⟩ : ∃ x, Dv.badW n ps[k] = x := ⟨_, rfl⟩
      generalize ps[k] = p at *
      go_wp2_with (fail)
      refine (badW_any H3.out hB2).mono ?_
      rintro e w1 ⟨rfl, b1⟩
      have HB1 := Lib.hid (HB.out.up b1)
      clear b1
      rw [hx]
      cases x with
      | true =>
        go_wp2_with (fail)
        go_ret
        exact ⟨⟨k, rfl, by rw [HY.out hx]; simp⟩, HB1.out⟩
      | false =>
        go_wp2_with (fail)
        go_roundw
        case rel => exact ⟨k + 1, by go_num, by omega, Lib.hid (HP.out _ hx rfl), HB1⟩
        case measure => first | omega | (simp [intOf]; done) | (simp [intOf]; omega)
    · obtain rfl : k = ps.length := by omega
      go_wp2_with (fail)
      go_ret
      exact ⟨⟨-1, rfl, by rw [any_no (fun j hj => HN.out j hj hj)]; rfl⟩, HB.out⟩

set_option maxHeartbeats 1000000 in
theorem hasW_any {ps : List Wr} {v : Value} {B n : Nat} {w : World} (hv : IsWs w v ps) (hB : w.cell? ⟨B, 0, none⟩ = some (.int .i64 n)) (hl : ps.length ≤ 4096) :
    Calls Try.prog 57 #[v, .func (.func 55) #[] #[.pointer (some ⟨B, 0, none⟩)]] w fun e w' => e = .returned (.bool (ps.any (Dv.badW n))) ∧ Below w.heap.size w w' := by
  have HV := Lib.hid hv
  clear hv
  go_enter Try.func57, Try.ntmps57
  go_wp2_with (fail)
  refine (idxW_any HV.out hB hl).mono ?_
  rintro e w1 ⟨⟨i, rfl, hi⟩, b1⟩
  have HB1 := Lib.hid b1
  clear b1
  go_wp2_with (fail)
  go_ret
  exact ⟨by first | rfl | exact ret_bool hi, HB1.out⟩

set_option maxHeartbeats 1000000 in
theorem idxS_any {ss : List By} {v : Value} {w : World} (hv : IsBs w v ss) (hl : ss.length ≤ 4096) :
    Calls Try.prog 71 #[v, .func (.func 59) #[] #[]] w fun e w' => (∃ i : Int, e = .returned (.int .i64 i) ∧ decide (0 ≤ i) = ss.any Dv.badS) ∧ Below w.heap.size w w' := by
  have HV := Lib.hid hv
  obtain ⟨A, cap, vs, rfl, _⟩ := id hv
  clear hv
  go_enter Try.func71, Try.ntmps71
  go_wp2_with (fail)
  go_loopw [8] (fun i wr => ∃ k : Nat, i = .int .i64 k ∧ k ≤ ss.length ∧ Hid (∀ j, j < k → (hj : j < ss.length) → Dv.badS ss[j] = false) ∧ wr = w) (fun i _ => ss.length - (intOf i).toNat)
  case atStart => exact ⟨0, rfl, Nat.zero_le _, Lib.hid (fun j h hj => by omega), rfl⟩
  case round =>
    obtain ⟨k, rfl, hk, HN, rfl⟩ := hrel
    by_cases hlt2 : k < ss.length
    · obtain ⟨b, off, A', c', rfl, hb, hc1, hc3⟩ := bs_at HV.out hlt2
      have H3 := Lib.hid hc3
      clear hc3
      have HP := Lib.hid (show ∀ c, Dv.badS ss[k] = c → c = false → ∀ j, j < k + 1 → (hj : j < ss.length) → Dv.badS ss[j] = false from fun c h h0 j hj hj2 => by
        rcases Nat.lt_or_ge j k with h3 | h3
        · exact HN.out j h3 hj2
        · obtain rfl : j = k := by omega
          rw [h, h0])
      have HY := Lib.hid (fun h => any_yes (f := Dv.badS) hlt2 h)
      obtain ⟨x, hx⟩ : ∃ x, Dv.badS ss[k] = x := ⟨_, rfl⟩
      generalize ss[k] = p at *
      go_wp2_with (fail)
      refine (badS_any H3.out).mono ?_
      rintro e w1 ⟨rfl, rfl⟩
      rw [hx]
      cases x with
      | true =>
        go_wp2_with (fail)
        go_ret
        exact ⟨⟨k, rfl, by rw [HY.out hx]; simp⟩, Below.refl _ _⟩
      | false =>
        go_wp2_with (fail)
        go_roundw
        case rel => exact ⟨k + 1, by go_num, by omega, Lib.hid (HP.out _ hx rfl), by first | trivial | rfl⟩
        case measure => first | omega | (simp [intOf]; done) | (simp [intOf]; omega)
    · obtain rfl : k = ss.length := by omega
      go_wp2_with (fail)
      go_ret
      exact ⟨⟨-1, rfl, by rw [any_no (fun j hj => HN.out j hj hj)]; rfl⟩, Below.refl _ _⟩

set_option maxHeartbeats 1000000 in
theorem hasS_any {ss : List By} {v : Value} {w : World} (hv : IsBs w v ss) (hl : ss.length ≤ 4096) :
    Calls Try.prog 58 #[v, .func (.func 59) #[] #[]] w fun e w' => e = .returned (.bool (ss.any Dv.badS)) ∧ Below w.heap.size w w' := by
  have HV := Lib.hid hv
  clear hv
  go_enter Try.func58, Try.ntmps58
  go_wp2_with (fail)
  refine (idxS_any HV.out hl).mono ?_
  rintro e w1 ⟨⟨i, rfl, hi⟩, b1⟩
  have HB1 := Lib.hid b1
  clear b1
  go_wp2_with (fail)
  go_ret
  exact ⟨by first | rfl | exact ret_bool hi, HB1.out⟩
end
section
open Go.RowKit
set_option linter.unusedVariables false
set_option linter.unusedSimpArgs false
set_option maxRecDepth 20000

theorem cell_box1 (w : World) (o : Obj) (v : Value) (t : TypeId) : ((w.alloc o).alloc (.cells #[v] t)).cell? ⟨w.heap.size + 1, 0, none⟩ = some v := by
  simp
theorem chk_no {d : Dk} (h : ¬ Dv.Ok d) : Dv.chk d = 40 := if_neg h
theorem chk_yes {d : Dk} (h : Dv.Ok d) : Dv.chk d = 0 := if_pos h

set_option maxHeartbeats 4000000 in
theorem Check_any {d : Dk} {v : Value} {w : World} (hv : IsD w v d) :
    Calls Try.prog 31 #[v] w fun e w' => e = .returned (.int .i64 (Dv.chk d)) ∧ Below w.heap.size w w' := by
  obtain ⟨A, c, A2, c2, rfl, h1, h2⟩ := hv.open_
  obtain ⟨ss, ps, left, st⟩ := d
  simp only at h1 h2
  have H1 := Lib.hid h1
  have H2 := Lib.hid h2
  obtain ⟨r, hr⟩ : ∃ r, Dv.chk ⟨ss, ps, left, st⟩ = r := ⟨_, rfl⟩
  have HR := Lib.hid hr
  rw [hr]
  clear h1 h2 hr hv
  simp only
  by_cases en1 : (ss.length : Int) < 1
  · have dn1 : decide ((ss.length : Int) < 1) = true := decide_eq_true en1
    obtain rfl : r = 40 := by rw [← HR.out]; exact chk_no (fun h => by have := h.n1; simp only at this; omega)
    go_enter Try.func31, Try.ntmps31
    go_wp2_with (fail)
    go_ret
    exact ⟨rfl, by first | exact al1 _ _ | exact (al1 _ _).up (al1 _ _) | exact ((al1 _ _).up (al1 _ _)).up (al1 _ _)⟩
  have dn1 : decide ((ss.length : Int) < 1) = false := decide_eq_false en1
  by_cases en2 : (4096 : Int) < (ss.length : Int)
  · have dn2 : decide ((4096 : Int) < (ss.length : Int)) = true := decide_eq_true en2
    obtain rfl : r = 40 := by rw [← HR.out]; exact chk_no (fun h => by have := h.n2; simp only at this; omega)
    go_enter Try.func31, Try.ntmps31
    go_wp2_with (fail)
    go_ret
    exact ⟨rfl, by first | exact al1 _ _ | exact (al1 _ _).up (al1 _ _) | exact ((al1 _ _).up (al1 _ _)).up (al1 _ _)⟩
  have dn2 : decide ((4096 : Int) < (ss.length : Int)) = false := decide_eq_false en2
  by_cases ep2 : (4096 : Int) < (ps.length : Int)
  · have dp2 : decide ((4096 : Int) < (ps.length : Int)) = true := decide_eq_true ep2
    obtain rfl : r = 40 := by rw [← HR.out]; exact chk_no (fun h => by have := h.p2; simp only at this; omega)
    go_enter Try.func31, Try.ntmps31
    go_wp2_with (fail)
    go_ret
    exact ⟨rfl, by first | exact al1 _ _ | exact (al1 _ _).up (al1 _ _) | exact ((al1 _ _).up (al1 _ _)).up (al1 _ _)⟩
  have dp2 : decide ((4096 : Int) < (ps.length : Int)) = false := decide_eq_false ep2
  by_cases el1 : left < -1
  · have dl1 : decide (left < -1) = true := decide_eq_true el1
    obtain rfl : r = 40 := by rw [← HR.out]; exact chk_no (fun h => by have := h.l1; simp only at this; omega)
    go_enter Try.func31, Try.ntmps31
    go_wp2_with (fail)
    go_ret
    exact ⟨rfl, by first | exact al1 _ _ | exact (al1 _ _).up (al1 _ _) | exact ((al1 _ _).up (al1 _ _)).up (al1 _ _)⟩
  have dl1 : decide (left < -1) = false := decide_eq_false el1
  by_cases el2 : (65536 : Int) < left
  · have dl2 : decide ((65536 : Int) < left) = true := decide_eq_true el2
    obtain rfl : r = 40 := by rw [← HR.out]; exact chk_no (fun h => by have := h.l2; simp only at this; omega)
    go_enter Try.func31, Try.ntmps31
    go_wp2_with (fail)
    go_ret
    exact ⟨rfl, by first | exact al1 _ _ | exact (al1 _ _).up (al1 _ _) | exact ((al1 _ _).up (al1 _ _)).up (al1 _ _)⟩
  have dl2 : decide ((65536 : Int) < left) = false := decide_eq_false el2
  obtain ⟨b1, hb1⟩ : ∃ b1, ps.any (Dv.badW ss.length) = b1 := ⟨_, rfl⟩
  obtain ⟨b2, hb2⟩ : ∃ b2, ss.any Dv.badS = b2 := ⟨_, rfl⟩
  have HN := Lib.hid (show ps.length ≤ 4096 ∧ ss.length ≤ 4096 by omega)
  obtain rfl : r = if b1 || b2 then 40 else 0 := by
    rw [← HR.out]
    by_cases hh : (b1 || b2) = true
    · rw [if_pos hh]
      refine chk_no (fun h => ?_)
      have h3 := h.ps
      have h4 := h.ss
      simp only at h3 h4
      rw [h3] at hb1; rw [h4] at hb2
      subst hb1 hb2
      cases hh
    · rw [if_neg hh]
      have hh2 : b1 = false ∧ b2 = false := by cases b1 <;> cases b2 <;> simp_all
      refine chk_yes ⟨?_, ?_, ?_, ?_, ?_, ?_, ?_⟩
      · simp only; omega
      · simp only; omega
      · simp only; omega
      · simp only; omega
      · simp only; omega
      · simp only; rw [hb1]; exact hh2.1
      · simp only; rw [hb2]; exact hh2.2
  have HB1 := Lib.hid hb1
  have HB2 := Lib.hid hb2
  clear hb1 hb2 en1 en2 ep2 el1 el2
  go_enter Try.func31, Try.ntmps31
  go_wp2_with (fail)
  refine (hasW_any (n := ss.length) (H2.out.upb ((al1 _ _).up (al1 _ _))) ?_ HN.out.1).mono ?_
  · exact cell_box1 _ _ _ _
  rintro e w1 ⟨rfl, bb1⟩
  rw [HB1.out]
  have HBB := Lib.hid (((al1 w (Obj.cells #[Value.slice A ss.length c, Value.slice A2 ps.length c2, Value.int IntKind.i64 left, Value.bool st] 25)).up (al1 _ (Obj.cells #[Value.int IntKind.i64 ↑ss.length] 3))).up bb1)
  have hc0 := (((Cells.new w 25 [Value.slice A ss.length c, Value.slice A2 ps.length c2, Value.int IntKind.i64 left, Value.bool st]).upb (al1 _ (Obj.cells #[Value.int IntKind.i64 ↑ss.length] 3))).upb bb1).cell (k := 0) rfl
  clear bb1
  cases b1 with
  | true =>
    go_wp2_with (fail)
    go_ret
    exact ⟨rfl, HBB.out⟩
  | false =>
  go_wp2_with (fail)
  refine (hasS_any (H1.out.upb HBB.out) HN.out.2).mono ?_
  rintro e w2 ⟨rfl, bb2⟩
  rw [HB2.out]
  have HBC := Lib.hid (HBB.out.up bb2)
  clear bb2
  cases b2 with
  | true =>
    go_wp2_with (fail)
    go_ret
    exact ⟨rfl, HBC.out⟩
  | false =>
    go_wp2_with (fail)
    go_ret
    exact ⟨rfl, HBC.out⟩

end
section
open Go.RowKit
set_option linter.unusedVariables false
set_option linter.unusedSimpArgs false
set_option maxRecDepth 20000

set_option maxHeartbeats 4000000 in
theorem refCheck_any {d : Dk} {v : Value} {w : World} (hv : IsD w v d) :
    Calls Try.prog 33 #[v] w fun e w' => e = .returned (.int .i64 (Dv.chk d)) ∧ Below w.heap.size w w' := by
  obtain ⟨A, c, A2, c2, rfl, h1, h2⟩ := hv.open_
  obtain ⟨ss, ps, left, st⟩ := d
  simp only at h1 h2
  have H1 := Lib.hid h1
  have H2 := Lib.hid h2
  obtain ⟨r, hr⟩ : ∃ r, Dv.chk ⟨ss, ps, left, st⟩ = r := ⟨_, rfl⟩
  have HR := Lib.hid hr
  rw [hr]
  clear h1 h2 hr hv
  simp only
  by_cases en1 : (ss.length : Int) < 1
  · have dn1 : decide ((ss.length : Int) < 1) = true := decide_eq_true en1
    obtain rfl : r = 40 := by rw [← HR.out]; exact chk_no (fun h => by have := h.n1; simp only at this; omega)
    go_enter Try.func33, Try.ntmps33
    go_wp2_with (fail)
    go_ret
    exact ⟨rfl, by first | exact al1 _ _ | exact (al1 _ _).up (al1 _ _) | exact ((al1 _ _).up (al1 _ _)).up (al1 _ _)⟩
  have dn1 : decide ((ss.length : Int) < 1) = false := decide_eq_false en1
  by_cases en2 : (4096 : Int) < (ss.length : Int)
  · have dn2 : decide ((4096 : Int) < (ss.length : Int)) = true := decide_eq_true en2
    obtain rfl : r = 40 := by rw [← HR.out]; exact chk_no (fun h => by have := h.n2; simp only at this; omega)
    go_enter Try.func33, Try.ntmps33
    go_wp2_with (fail)
    go_ret
    exact ⟨rfl, by first | exact al1 _ _ | exact (al1 _ _).up (al1 _ _) | exact ((al1 _ _).up (al1 _ _)).up (al1 _ _)⟩
  have dn2 : decide ((4096 : Int) < (ss.length : Int)) = false := decide_eq_false en2
  by_cases ep2 : (4096 : Int) < (ps.length : Int)
  · have dp2 : decide ((4096 : Int) < (ps.length : Int)) = true := decide_eq_true ep2
    obtain rfl : r = 40 := by rw [← HR.out]; exact chk_no (fun h => by have := h.p2; simp only at this; omega)
    go_enter Try.func33, Try.ntmps33
    go_wp2_with (fail)
    go_ret
    exact ⟨rfl, by first | exact al1 _ _ | exact (al1 _ _).up (al1 _ _) | exact ((al1 _ _).up (al1 _ _)).up (al1 _ _)⟩
  have dp2 : decide ((4096 : Int) < (ps.length : Int)) = false := decide_eq_false ep2
  by_cases el1 : left < -1
  · have dl1 : decide (left < -1) = true := decide_eq_true el1
    obtain rfl : r = 40 := by rw [← HR.out]; exact chk_no (fun h => by have := h.l1; simp only at this; omega)
    go_enter Try.func33, Try.ntmps33
    go_wp2_with (fail)
    go_ret
    exact ⟨rfl, by first | exact al1 _ _ | exact (al1 _ _).up (al1 _ _) | exact ((al1 _ _).up (al1 _ _)).up (al1 _ _)⟩
  have dl1 : decide (left < -1) = false := decide_eq_false el1
  by_cases el2 : (65536 : Int) < left
  · have dl2 : decide ((65536 : Int) < left) = true := decide_eq_true el2
    obtain rfl : r = 40 := by rw [← HR.out]; exact chk_no (fun h => by have := h.l2; simp only at this; omega)
    go_enter Try.func33, Try.ntmps33
    go_wp2_with (fail)
    go_ret
    exact ⟨rfl, by first | exact al1 _ _ | exact (al1 _ _).up (al1 _ _) | exact ((al1 _ _).up (al1 _ _)).up (al1 _ _)⟩
  have dl2 : decide ((65536 : Int) < left) = false := decide_eq_false el2
  have HOK := Lib.hid (show ps.any (Dv.badW ss.length) = false → ss.any Dv.badS = false → r = 0 from fun h1 h2 => by
    rw [← HR.out]
    refine chk_yes ⟨?_, ?_, ?_, ?_, ?_, ?_, ?_⟩
    · simp only; omega
    · simp only; omega
    · simp only; omega
    · simp only; omega
    · simp only; omega
    · exact h1
    · exact h2)
  have HNW := Lib.hid (show ∀ k (hk : k < ps.length), Dv.badW ss.length ps[k] = true → r = 40 from fun k hk h => by
    rw [← HR.out]
    refine chk_no (fun h2 => ?_)
    have h3 := h2.ps
    simp only at h3
    rw [any_yes hk h] at h3
    cases h3)
  have HNS := Lib.hid (show ∀ k (hk : k < ss.length), Dv.badS ss[k] = true → r = 40 from fun k hk h => by
    rw [← HR.out]
    refine chk_no (fun h2 => ?_)
    have h3 := h2.ss
    simp only at h3
    rw [any_yes hk h] at h3
    cases h3)
  have HN := Lib.hid (show ps.length ≤ 4096 ∧ ss.length ≤ 4096 by omega)
  have hn4 : (ss.length : Int) ≤ 4096 := by omega
  have hp4 : (ps.length : Int) ≤ 4096 := by omega
  clear en1 en2 ep2 el1 el2
  go_enter Try.func33, Try.ntmps33
  go_wp2_with (fail)
  have HX := Lib.hid (Cells.new w 25 [Value.slice A ss.length c, Value.slice A2 ps.length c2, Value.int IntKind.i64 left, Value.bool st])
  have HB0 := Lib.hid (al1 w (Obj.cells #[Value.slice A ss.length c, Value.slice A2 ps.length c2, Value.int IntKind.i64 left, Value.bool st] 25))
  go_loopw [4] (fun i wr => ∃ k : Nat, i = .int .i64 k ∧ k ≤ ss.length ∧ Hid (∀ j, j < k → (hj : j < ss.length) → Dv.badS ss[j] = false) ∧ wr = (w.alloc (Obj.cells #[Value.slice A ss.length c, Value.slice A2 ps.length c2, Value.int IntKind.i64 left, Value.bool st] 25))) (fun i _ => ss.length - (intOf i).toNat)
  case atStart => exact ⟨0, rfl, Nat.zero_le _, Lib.hid (fun j h hj => by omega), rfl⟩
  case round =>
    obtain ⟨k, rfl, hk, HNo, rfl⟩ := hrel
    by_cases hlt2 : k < ss.length
    · obtain ⟨b, off, A', c', rfl, hb, hc1, hc3⟩ := bs_at (H1.out.upb HB0.out) hlt2
      have hc0 := HX.out.cell (k := 0) rfl
      have HP := Lib.hid (show Dv.badS ss[k] = false → ∀ j, j < k + 1 → (hj : j < ss.length) → Dv.badS ss[j] = false from fun h0 j hj hj2 => by
        rcases Nat.lt_or_ge j k with h3 | h3
        · exact HNo.out j h3 hj2
        · obtain rfl : j = k := by omega
          exact h0)
      have HY := Lib.hid (HNS.out k hlt2)
      generalize ss[k] = p at *
      have HE := Lib.hid (show ((p.length : Int) != 128) = Dv.badS p by rw [bne, len128]; simp)
      obtain ⟨x, hx⟩ : ∃ x, Dv.badS p = x := ⟨_, rfl⟩
      have hx2 : ((p.length : Int) != 128) = x := by rw [HE.out, hx]
      have HX2 := Lib.hid hx
      clear hx hc3
      cases x with
      | true =>
        obtain rfl := HY.out HX2.out
        go_wp2_with (fail)
        go_ret
        exact ⟨rfl, HB0.out⟩
      | false =>
        go_wp2_with (fail)
        go_roundw
        case rel => exact ⟨k + 1, by go_num, by omega, Lib.hid (HP.out HX2.out), by first | trivial | rfl⟩
        case measure => first | omega | (simp [intOf]; done) | (simp [intOf]; omega)
    · obtain rfl : k = ss.length := by omega
      have HSS := Lib.hid (any_no (f := Dv.badS) (fun j hj => HNo.out j hj hj))
      clear HNo
      go_wp2_with (fail)
      go_loopw [5] (fun i wr => ∃ k : Nat, i = .int .i64 k ∧ k ≤ ps.length ∧ Hid (∀ j, j < k → (hj : j < ps.length) → Dv.badW ss.length ps[j] = false) ∧ Hid (Cells wr w.heap.size 25 [Value.slice A ss.length c, Value.slice A2 ps.length c2, Value.int IntKind.i64 left, Value.bool st]) ∧ Hid (Below w.heap.size w wr)) (fun i _ => ps.length - (intOf i).toNat)
      case atStart => exact ⟨0, rfl, Nat.zero_le _, Lib.hid (fun j h hj => by omega), HX, HB0⟩
      case round =>
        obtain ⟨k, rfl, hk, HNo, HXr, HB⟩ := hrel
        have hc1 := HXr.out.cell (k := 1) rfl
        by_cases hlt2 : k < ps.length
        · obtain ⟨b, off, A', c', rfl, hb, hcc1, hcc2, hc3⟩ := ws_at (H2.out.upb HB.out) hlt2
          have HP := Lib.hid (show Dv.badW ss.length ps[k] = false → ∀ j, j < k + 1 → (hj : j < ps.length) → Dv.badW ss.length ps[j] = false from fun h0 j hj hj2 => by
            rcases Nat.lt_or_ge j k with h3 | h3
            · exact HNo.out j h3 hj2
            · obtain rfl : j = k := by omega
              exact h0)
          have HY := Lib.hid (HNW.out k hlt2)
          generalize ps[k] = p at *
          by_cases t1 : p.at_ < 0
          · have dt1 : decide (p.at_ < 0) = true := decide_eq_true t1
            obtain rfl := HY.out (by unfold Dv.badW; simp [t1])
            clear hc3 t1
            go_wp2_with (fail)
            go_ret
            exact ⟨rfl, HB.out.up (al1 _ _)⟩
          have dt1 : decide (p.at_ < 0) = false := decide_eq_false t1
          by_cases t2 : (ss.length : Int) ≤ p.at_
          · have dt2 : decide ((ss.length : Int) ≤ p.at_) = true := decide_eq_true t2
            obtain rfl := HY.out (by unfold Dv.badW; simp [t2])
            clear hc3 t1 t2
            go_wp2_with (fail)
            go_ret
            exact ⟨rfl, HB.out.up (al1 _ _)⟩
          have dt2 : decide ((ss.length : Int) ≤ p.at_) = false := decide_eq_false t2
          have HE := Lib.hid (show Dv.badW ss.length p = ((p.data.length : Int) != 128) by rw [bne, len128]; unfold Dv.badW Dv.badS; simp [t1, t2])
          clear hc3 t1 t2
          obtain ⟨x, hx⟩ : ∃ x, ((p.data.length : Int) != 128) = x := ⟨_, rfl⟩
          have HX2 := Lib.hid (HE.out.trans hx)
          cases x with
          | true =>
            obtain rfl := HY.out HX2.out
            go_wp2_with (fail)
            go_ret
            exact ⟨rfl, HB.out.up (al1 _ _)⟩
          | false =>
            go_wp2_with (fail)
            go_roundw
            case rel => exact ⟨k + 1, by go_num, by omega, Lib.hid (HP.out HX2.out), Lib.hid (HXr.out.upb (al1 _ _)), Lib.hid (HB.out.up (al1 _ _))⟩
            case measure => first | omega | (simp [intOf]; done) | (simp [intOf]; omega)
        · obtain rfl : k = ps.length := by omega
          obtain rfl := HOK.out (any_no (fun j hj => HNo.out j hj hj)) HSS.out
          go_wp2_with (fail)
          go_ret
          exact ⟨rfl, HB.out⟩

end
section
open Go.RowKit
set_option linter.unusedVariables false
set_option linter.unusedSimpArgs false
set_option maxRecDepth 20000

theorem Check_is {d : Dk} {v : Value} {w : World} (hv : IsD w v d) {r : Int} (hr : Dv.chk d = r) : Calls Try.prog 31 #[v] w fun e w' => e = .returned (.int .i64 r) ∧ Below w.heap.size w w' := by subst hr; exact Check_any hv
theorem refCheck_is {d : Dk} {v : Value} {w : World} (hv : IsD w v d) {r : Int} (hr : Dv.chk d = r) : Calls Try.prog 33 #[v] w fun e w' => e = .returned (.int .i64 r) ∧ Below w.heap.size w w' := by subst hr; exact refCheck_any hv

set_option maxHeartbeats 2000000 in
theorem runs_is {d : Dk} {v : Value} {w : World} (hv : IsD w v d) {b : Bool} (hb : decide (Dv.Run d) = b) :
    Calls Try.prog 50 #[v] w fun e w' => e = .returned (.bool b) ∧ Below w.heap.size w w' := by
  have HV := Lib.hid hv
  obtain ⟨A, c, A2, c2, rfl, h1, h2⟩ := hv.open_
  obtain ⟨ss, ps, left, st⟩ := d
  have HBB := Lib.hid hb
  clear hb h1 h2 hv
  simp only at HV ⊢
  have HX := Lib.hid (Cells.new w 25 [Value.slice A ss.length c, Value.slice A2 ps.length c2, Value.int IntKind.i64 left, Value.bool st])
  by_cases ho : Dv.Ok ⟨ss, ps, left, st⟩
  · have HO := Lib.hid (chk_yes ho)
    obtain rfl : (!st) = b := by rw [← HBB.out]; unfold Dv.Run; cases st <;> simp [ho]
    clear ho
    go_enter Try.func50, Try.ntmps50
    go_wp2_with (fail)
    refine (Check_is (HV.out.upb (al1 _ _)) HO.out).mono ?_
    rintro e w1 ⟨rfl, b1⟩
    have hc3 := (HX.out.upb b1).cell (k := 3) rfl
    have HB1 := Lib.hid ((al1 _ _).up b1)
    clear b1
    go_wp2_with (fail)
    go_ret
    exact ⟨rfl, HB1.out⟩
  · have HO := Lib.hid (chk_no ho)
    obtain rfl : false = b := by rw [← HBB.out]; unfold Dv.Run; simp [ho]
    clear ho
    go_enter Try.func50, Try.ntmps50
    go_wp2_with (fail)
    refine (Check_is (HV.out.upb (al1 _ _)) HO.out).mono ?_
    rintro e w1 ⟨rfl, b1⟩
    have HB1 := Lib.hid ((al1 _ _).up b1)
    clear b1
    go_wp2_with (fail)
    go_ret
    exact ⟨rfl, HB1.out⟩

set_option maxHeartbeats 2000000 in
theorem has_is {d : Dk} {v : Value} {w : World} (hv : IsD w v d) {a : Int} {b : Bool} (hb : decide (Dv.Has d a) = b) :
    Calls Try.prog 51 #[v, .int .i64 a] w fun e w' => e = .returned (.bool b) ∧ Below w.heap.size w w' := by
  obtain ⟨A, c, A2, c2, rfl, h1, h2⟩ := hv.open_
  obtain ⟨ss, ps, left, st⟩ := d
  have HBB := Lib.hid hb
  clear hb h1 h2 hv
  simp only at HBB ⊢
  by_cases h0 : 0 ≤ a
  · have d0 : decide (0 ≤ a) = true := decide_eq_true h0
    obtain ⟨x, hx⟩ : ∃ x, decide (a < (ss.length : Int)) = x := ⟨_, rfl⟩
    obtain rfl : x = b := by rw [← HBB.out, ← hx]; unfold Dv.Has; simp [h0]
    clear h0
    go_enter Try.func51, Try.ntmps51
    go_wp2_with (fail)
    go_ret
    exact ⟨by first | rfl | exact ret_bool hx, al1 _ _⟩
  · have d0 : decide (0 ≤ a) = false := decide_eq_false h0
    obtain rfl : false = b := by rw [← HBB.out]; unfold Dv.Has; simp [h0]
    clear h0
    go_enter Try.func51, Try.ntmps51
    go_wp2_with (fail)
    go_ret
    exact ⟨rfl, al1 _ _⟩

theorem run_iff {d : Dk} : Dv.Run d ↔ Dv.chk d = 0 ∧ d.st = false := by
  unfold Dv.Run Dv.chk
  by_cases h : Dv.Ok d <;> simp [h]

end
end Go.Proofs.Ytkcnanclpkongaa

/- Walks of IndexFunc, ContainsFunc, Check. -/
import Derived.Test.YtimpnpdhhhbmgaaW1
namespace Go.Proofs.Ytimpnpdhhhbmgaa
open Go.RowKit
set_option linter.unusedVariables false
set_option linter.unusedSimpArgs false

theorem any_no {α : Type} {f : α → Bool} {l : List α} (h : ∀ j, (hj : j < l.length) → f l[j] = false) : l.any f = false := by
  rw [List.any_eq_false]
  intro x hx
  obtain ⟨j, hj, rfl⟩ := List.getElem_of_mem hx
  simp [h j hj]
theorem any_yes {α : Type} {f : α → Bool} {l : List α} {k : Nat} (hk : k < l.length) (h : f l[k] = true) : l.any f = true := by
  rw [List.any_eq_true]
  exact ⟨_, List.getElem_mem hk, h⟩

set_option maxHeartbeats 1000000 in
theorem idxW_any {ps : List Wr} {v : Value} {B n : Nat} {w : World} (hv : IsWs w v ps) (hB : w.cell? ⟨B, 0, none⟩ = some (.int .i64 n)) (hl : ps.length ≤ 4096) :
    Calls Try.prog 43 #[v, .func (.func 30) #[] #[.pointer (some ⟨B, 0, none⟩)]] w fun e w' => (∃ i : Int, e = .returned (.int .i64 i) ∧ decide (0 ≤ i) = ps.any (Dv.badW n)) ∧ Below w.heap.size w w' := by
  have HV := Lib.hid hv
  obtain ⟨A, cap, vs, rfl, _⟩ := id hv
  have hlt : B < w.heap.size := cell_lt hB
  clear hv
  go_enter Try.func43, Try.ntmps43
  go_wp2_with (fail)
  go_loopw [8] (fun i wr => ∃ k : Nat, i = .int .i64 k ∧ k ≤ ps.length ∧ Hid (∀ j, j < k → (hj : j < ps.length) → Dv.badW n ps[j] = false) ∧ Hid (Below w.heap.size w wr)) (fun i _ => ps.length - (intOf i).toNat)
  case atStart => exact ⟨0, rfl, Nat.zero_le _, Lib.hid (fun j h hj => by omega), Lib.hid (Below.refl _ _)⟩
  case round =>
    obtain ⟨k, rfl, hk, HN, HB⟩ := hrel
    by_cases hlt2 : k < ps.length
    · obtain ⟨b, off, A', c', rfl, hb, hc1, hc2, hc3⟩ := ws_at HV.out hlt2
      have h1 : wr.cell? ⟨b, off + k * 2, none⟩ = some (.int .i64 ps[k].at_) := by rw [(bcell HB.out).1 b _ hb, hc1]
      have h2 : wr.cell? ⟨b, off + k * 2 + 1, none⟩ = some (.slice A' ps[k].data.length c') := by rw [(bcell HB.out).1 b _ hb, hc2]
      have hB2 : wr.cell? ⟨B, 0, none⟩ = some (.int .i64 n) := by rw [(bcell HB.out).1 B 0 hlt, hB]
      have H3 := Lib.hid (hc3.upb HB.out)
      clear hc1 hc2 hc3
      have HP := Lib.hid (show ∀ c, Dv.badW n ps[k] = c → c = false → ∀ j, j < k + 1 → (hj : j < ps.length) → Dv.badW n ps[j] = false from fun c h h0 j hj hj2 => by
        rcases Nat.lt_or_ge j k with h3 | h3
        · exact HN.out j h3 hj2
        · obtain rfl : j = k := by omega
          rw [h, h0])
      have HY := Lib.hid (fun h => any_yes (f := Dv.badW n) hlt2 h)
      obtain ⟨x, hx⟩ : ∃ x, Dv.badW n ps[k] = x := ⟨_, rfl⟩
      generalize ps[k] = p at *
      go_wp2_with (fail)
      refine (badW_any H3.out hB2).mono ?_
      rintro e w1 ⟨rfl, b1⟩
      have HB1 := Lib.hid (HB.out.up b1)
      clear b1
      rw [hx]
      cases x with
      | true =>
        go_wp2_with (fail)
        go_ret
        exact ⟨⟨k, rfl, by rw [HY.out hx]; simp⟩, HB1.out⟩
      | false =>
        go_wp2_with (fail)
        go_roundw
        case rel => exact ⟨k + 1, by go_num, by omega, Lib.hid (HP.out _ hx rfl), HB1⟩
        case measure => first | omega | (simp [intOf]; done) | (simp [intOf]; omega)
    · obtain rfl : k = ps.length := by omega
      go_wp2_with (fail)
      go_ret
      exact ⟨⟨-1, rfl, by rw [any_no (fun j hj => HN.out j hj hj)]; rfl⟩, HB.out⟩

set_option maxHeartbeats 1000000 in
theorem hasW_any {ps : List Wr} {v : Value} {B n : Nat} {w : World} (hv : IsWs w v ps) (hB : w.cell? ⟨B, 0, none⟩ = some (.int .i64 n)) (hl : ps.length ≤ 4096) :
    Calls Try.prog 32 #[v, .func (.func 30) #[] #[.pointer (some ⟨B, 0, none⟩)]] w fun e w' => e = .returned (.bool (ps.any (Dv.badW n))) ∧ Below w.heap.size w w' := by
  have HV := Lib.hid hv
  clear hv
  go_enter Try.func32, Try.ntmps32
  go_wp2_with (fail)
  refine (idxW_any HV.out hB hl).mono ?_
  rintro e w1 ⟨⟨i, rfl, hi⟩, b1⟩
  have HB1 := Lib.hid b1
  clear b1
  go_wp2_with (fail)
  go_ret
  exact ⟨by first | rfl | exact ret_bool hi, HB1.out⟩

set_option maxHeartbeats 1000000 in
theorem idxS_any {ss : List By} {v : Value} {w : World} (hv : IsBs w v ss) (hl : ss.length ≤ 4096) :
    Calls Try.prog 44 #[v, .func (.func 34) #[] #[]] w fun e w' => (∃ i : Int, e = .returned (.int .i64 i) ∧ decide (0 ≤ i) = ss.any Dv.badS) ∧ Below w.heap.size w w' := by
  have HV := Lib.hid hv
  obtain ⟨A, cap, vs, rfl, _⟩ := id hv
  clear hv
  go_enter Try.func44, Try.ntmps44
  go_wp2_with (fail)
  go_loopw [8] (fun i wr => ∃ k : Nat, i = .int .i64 k ∧ k ≤ ss.length ∧ Hid (∀ j, j < k → (hj : j < ss.length) → Dv.badS ss[j] = false) ∧ wr = w) (fun i _ => ss.length - (intOf i).toNat)
  case atStart => exact ⟨0, rfl, Nat.zero_le _, Lib.hid (fun j h hj => by omega), rfl⟩
  case round =>
    obtain ⟨k, rfl, hk, HN, rfl⟩ := hrel
    by_cases hlt2 : k < ss.length
    · obtain ⟨b, off, A', c', rfl, hb, hc1, hc3⟩ := bs_at HV.out hlt2
      have H3 := Lib.hid hc3
      clear hc3
      have HP := Lib.hid (show ∀ c, Dv.badS ss[k] = c → c = false → ∀ j, j < k + 1 → (hj : j < ss.length) → Dv.badS ss[j] = false from fun c h h0 j hj hj2 => by
        rcases Nat.lt_or_ge j k with h3 | h3
        · exact HN.out j h3 hj2
        · obtain rfl : j = k := by omega
          rw [h, h0])
      have HY := Lib.hid (fun h => any_yes (f := Dv.badS) hlt2 h)
      obtain ⟨x, hx⟩ : ∃ x, Dv.badS ss[k] = x := ⟨_, rfl⟩
      generalize ss[k] = p at *
      go_wp2_with (fail)
      refine (badS_any H3.out).mono ?_
      rintro e w1 ⟨rfl, rfl⟩
      rw [hx]
      cases x with
      | true =>
        go_wp2_with (fail)
        go_ret
        exact ⟨⟨k, rfl, by rw [HY.out hx]; simp⟩, Below.refl _ _⟩
      | false =>
        go_wp2_with (fail)
        go_roundw
        case rel => exact ⟨k + 1, by go_num, by omega, Lib.hid (HP.out _ hx rfl), by first | trivial | rfl⟩
        case measure => first | omega | (simp [intOf]; done) | (simp [intOf]; omega)
    · obtain rfl : k = ss.length := by omega
      go_wp2_with (fail)
      go_ret
      exact ⟨⟨-1, rfl, by rw [any_no (fun j hj => HN.out j hj hj)]; rfl⟩, Below.refl _ _⟩

set_option maxHeartbeats 1000000 in
theorem hasS_any {ss : List By} {v : Value} {w : World} (hv : IsBs w v ss) (hl : ss.length ≤ 4096) :
    Calls Try.prog 33 #[v, .func (.func 34) #[] #[]] w fun e w' => e = .returned (.bool (ss.any Dv.badS)) ∧ Below w.heap.size w w' := by
  have HV := Lib.hid hv
  clear hv
  go_enter Try.func33, Try.ntmps33
  go_wp2_with (fail)
  refine (idxS_any HV.out hl).mono ?_
  rintro e w1 ⟨⟨i, rfl, hi⟩, b1⟩
  have HB1 := Lib.hid b1
  clear b1
  go_wp2_with (fail)
  go_ret
  exact ⟨by first | rfl | exact ret_bool hi, HB1.out⟩
end Go.Proofs.Ytimpnpdhhhbmgaa

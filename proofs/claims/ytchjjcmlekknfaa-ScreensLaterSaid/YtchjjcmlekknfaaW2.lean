/- Walks of the reference's Screen, Grouping, Done, Before. -/
import Derived.Test.YtchjjcmlekknfaaW1
import Derived.Test.YtchjjcmlekknfaaPlain4
namespace Go.Proofs.Ytchjjcmlekknfaa
open Go.RowKit
set_option linter.unusedVariables false
set_option linter.unusedSimpArgs false

set_option maxHeartbeats 400000 in
theorem before_any (v u : Value) (xs ys : List Int) (w : World) (hv : IsInts w v xs) (hu : IsInts w u ys) (hl : xs.length ≤ 9223372036854775807) (hl2 : ys.length ≤ 9223372036854775807) :
    Calls Try.prog 22 #[v, u] w fun e w' => e = .returned (.bool (lexL xs ys)) ∧ ∃ k, w' = w.drewN k := by
  obtain ⟨A, c, rfl, hr⟩ := hv
  obtain ⟨A2, c2, rfl, hr2⟩ := hu
  have HR := Lib.hid hr
  have HR2 := Lib.hid hr2
  clear hr hr2
  go_enter Try.func22, Try.ntmps22
  go_wp2
  go_loopw [5] (fun i wr => ∃ k : Nat, k ≤ xs.length ∧ k ≤ ys.length ∧ i = .int .i64 k ∧ Hid (xs.take k = ys.take k) ∧ ∃ q, wr = w.drewN q) (fun i _ => xs.length - (intOf i).toNat)
  case atStart => exact ⟨0, Nat.zero_le _, Nat.zero_le _, rfl, rfl, 0, rfl⟩
  case round =>
    obtain ⟨k, hk, hk2, rfl, H, q, rfl⟩ := hrel
    by_cases hlt : k < xs.length
    · have hd1 : decide ((k : Int) < (xs.length : Int)) = true := by rw [decide_eq_true_eq]; omega
      by_cases hlt2 : k < ys.length
      · have hd2 : decide ((k : Int) < (ys.length : Int)) = true := by rw [decide_eq_true_eq]; omega
        obtain ⟨b, off, rfl, _, hc⟩ := ints_at HR.out hlt
        obtain ⟨b2, off2, rfl, _, hc2⟩ := ints_at HR2.out hlt2
        by_cases he : xs[k] = ys[k]
        · have hb : (xs[k] != ys[k]) = false := by simpa using he
          have HE := Lib.hid he
          clear he
          go_wp2
          go_quiet (fail)
          go_wp2
          go_roundw
          case rel => exact ⟨k + 1, by omega, by omega, by go_num, by show xs.take (k + 1) = ys.take (k + 1); rw [List.take_succ_eq_append_getElem hlt, List.take_succ_eq_append_getElem hlt2, H.out, HE.out], _, rfl⟩
          case measure => first | omega | (simp [intOf]; omega)
        · have hb : (xs[k] != ys[k]) = true := by simpa using he
          have HL := Lib.hid (lexL_ne H.out hlt hlt2 he)
          generalize xs[k] = a at *
          generalize ys[k] = b' at *
          clear he
          go_wp2
          go_quiet (fail)
          go_wp2
          go_quiet (fail)
          go_wp2
          go_ret
          exact ⟨ret_bool HL.out.symm, _, by rw [World.drewN_drewN, World.drewN_drewN]⟩
      · have hd2 : decide ((k : Int) < (ys.length : Int)) = false := by rw [decide_eq_false_iff_not]; omega
        have HL := Lib.hid (lexL_end H.out (by omega) (by omega) (.inr hlt2))
        go_wp2
        go_ret
        exact ⟨ret_bool HL.out.symm, _, rfl⟩
    · have hd1 : decide ((k : Int) < (xs.length : Int)) = false := by rw [decide_eq_false_iff_not]; omega
      have HL := Lib.hid (lexL_end H.out (by omega) (by omega) (.inl hlt))
      go_wp2
      go_ret
      exact ⟨ret_bool HL.out.symm, _, rfl⟩


theorem at_cell {W : World} {A : Option Addr} {l : List Int} (h : RowAt W A (l.map (Value.int .i64))) {k : Nat} (hk : k < l.length) :
    ∃ b off, A = some ⟨b, off, none⟩ ∧ b < W.heap.size ∧ W.cell? ⟨b, off + k, none⟩ = some (.int .i64 (Sc.at_ l k)) := by
  rw [at_get hk]; exact ints_at h hk

set_option maxHeartbeats 2000000 in
theorem refScreen_any (v u : Value) (q : Sc.Qs) (i j : Nat) (b : Int) (w : World) (hv : IsInts w v q.r) (hu : IsInts w u q.d) (hq : Sc.ok q) (hij : i < j) (hj : j ≤ q.r.length) (h0 : 0 ≤ b) (hb : b ≤ 1125899906842624) :
    Calls Try.prog 38 #[v, u, .int .i64 q.f, .int .i64 i, .int .i64 j, .int .i64 b] w fun e w' => e = .returned (.int .i64 (Sc.scr q i j b)) ∧ w = w' := by
  obtain ⟨A, c, rfl, hr⟩ := hv
  obtain ⟨A2, c2, rfl, hr2⟩ := hu
  have HR2 := Lib.hid hr2
  have hlen := hq.len
  have hn := hq.n
  obtain ⟨bb, off, rfl, _, hc⟩ := at_cell hr (k := j - 1) (by omega)
  have hcj : ((j : Int) - 1).toNat = j - 1 := by omega
  have hr0 := hq.r0 (j - 1) (by omega)
  have hf0 := hq.f0
  have hf1 := hq.f1
  have HQ := Lib.hid hq
  clear hr hr2 hq
  obtain ⟨t, ht⟩ : ∃ t, Sc.at_ q.r (j - 1) = t := ⟨_, rfl⟩
  rw [ht] at hc hr0
  obtain ⟨s, hs⟩ : ∃ s, (if 0 < i then max t (b + q.f) else t) = s := ⟨_, rfl⟩
  have HE := Lib.hid (show Sc.scr q i j b = s + (Sc.sumN q.d j - Sc.sumN q.d i) by unfold Sc.scr; rw [ht, hs])
  have hsb : 0 ≤ s ∧ s ≤ 1130000000000000 := by rw [← hs]; split <;> omega
  have HS := Lib.hid hs
  clear hs
  have hw1 : Calls Try.prog 38 #[.slice (some ⟨bb, off, none⟩) q.r.length c, .slice A2 q.d.length c2, .int .i64 q.f, .int .i64 i, .int .i64 j, .int .i64 b] w fun e w' => e = .returned (.int .i64 (Sc.scr q i j b)) ∧ w = w' := by
    have hi : i = 0 ∨ (0 < i ∧ t < b + q.f) ∨ (0 < i ∧ ¬ t < b + q.f) := by omega
    have HJ := Lib.hid hij
    rcases hi with rfl | ⟨hi, hi2⟩ | ⟨hi, hi2⟩
    · obtain rfl : t = s := by rw [← HS.out, if_neg (by omega)]
      clear hb h0
      go_enter Try.func38, Try.ntmps38
      go_wp2
      go_loop [13, 14] (fun tt x => ∃ (k : Nat), 0 ≤ k ∧ k ≤ j ∧ x = .int .i64 k ∧ tt = .int .i64 (t + (Sc.sumN q.d k - Sc.sumN q.d 0))) (fun _ x => j - (intOf x).toNat)
      case atStart => exact ⟨0, Nat.le_refl _, Nat.le_of_lt HJ.out, rfl, by congr 1; omega⟩
      case round =>
        obtain ⟨k, hk1, hk2, rfl, rfl⟩ := hrel
        by_cases hlt : k < j
        · have hkd : k < q.d.length := by omega
          obtain ⟨b2, off2, rfl, _, hc2⟩ := at_cell HR2.out hkd
          have HS := Lib.hid (Sc.sumN_succ q.d k hkd)
          have hd0 := HQ.out.d0 k (by omega)
          have hs1 := HQ.out.sum_le (i := k) (by omega)
          have hs2 := HQ.out.sum_le (i := 0) (by omega)
          generalize Sc.at_ q.d k = y at *
          generalize Sc.sumN q.d k = sk at *
          generalize Sc.sumN q.d 0 = si at *
          go_wp2
          go_round
          case rel => exact ⟨k + 1, by omega, by omega, by go_num, by rw [HS.out]; first | (congr 1; omega) | go_num⟩
          case measure => simp [intOf]; omega
        · obtain rfl : k = j := by omega
          go_wp2
          go_ret
          exact ⟨ret_int (by rw [HE.out]), rfl⟩
    · obtain rfl : b + q.f = s := by rw [← HS.out, if_pos hi]; omega
      have hd : decide ((0 : Int) < (i : Int)) = true := by rw [decide_eq_true_eq]; omega
      go_enter Try.func38, Try.ntmps38
      go_wp2
      go_loop [13, 14] (fun tt x => ∃ (k : Nat), i ≤ k ∧ k ≤ j ∧ x = .int .i64 k ∧ tt = .int .i64 (b + q.f + (Sc.sumN q.d k - Sc.sumN q.d i))) (fun _ x => j - (intOf x).toNat)
      case atStart => exact ⟨i, Nat.le_refl _, Nat.le_of_lt HJ.out, rfl, by congr 1; omega⟩
      case round =>
        obtain ⟨k, hk1, hk2, rfl, rfl⟩ := hrel
        by_cases hlt : k < j
        · have hkd : k < q.d.length := by omega
          obtain ⟨b2, off2, rfl, _, hc2⟩ := at_cell HR2.out hkd
          have HS := Lib.hid (Sc.sumN_succ q.d k hkd)
          have hd0 := HQ.out.d0 k (by omega)
          have hs1 := HQ.out.sum_le (i := k) (by omega)
          have hs2 := HQ.out.sum_le (i := i) (by omega)
          generalize Sc.at_ q.d k = y at *
          generalize Sc.sumN q.d k = sk at *
          generalize Sc.sumN q.d i = si at *
          go_wp2
          go_round
          case rel => exact ⟨k + 1, by omega, by omega, by go_num, by rw [HS.out]; first | (congr 1; omega) | go_num⟩
          case measure => simp [intOf]; omega
        · obtain rfl : k = j := by omega
          go_wp2
          go_ret
          exact ⟨ret_int (by rw [HE.out]), rfl⟩
    · obtain rfl : t = s := by rw [← HS.out, if_pos hi]; omega
      have hd : decide ((0 : Int) < (i : Int)) = true := by rw [decide_eq_true_eq]; omega
      go_enter Try.func38, Try.ntmps38
      go_wp2
      go_loop [13, 14] (fun tt x => ∃ (k : Nat), i ≤ k ∧ k ≤ j ∧ x = .int .i64 k ∧ tt = .int .i64 (t + (Sc.sumN q.d k - Sc.sumN q.d i))) (fun _ x => j - (intOf x).toNat)
      case atStart => exact ⟨i, Nat.le_refl _, Nat.le_of_lt HJ.out, rfl, by congr 1; omega⟩
      case round =>
        obtain ⟨k, hk1, hk2, rfl, rfl⟩ := hrel
        by_cases hlt : k < j
        · have hkd : k < q.d.length := by omega
          obtain ⟨b2, off2, rfl, _, hc2⟩ := at_cell HR2.out hkd
          have HS := Lib.hid (Sc.sumN_succ q.d k hkd)
          have hd0 := HQ.out.d0 k (by omega)
          have hs1 := HQ.out.sum_le (i := k) (by omega)
          have hs2 := HQ.out.sum_le (i := i) (by omega)
          generalize Sc.at_ q.d k = y at *
          generalize Sc.sumN q.d k = sk at *
          generalize Sc.sumN q.d i = si at *
          go_wp2
          go_round
          case rel => exact ⟨k + 1, by omega, by omega, by go_num, by rw [HS.out]; first | (congr 1; omega) | go_num⟩
          case measure => simp [intOf]; omega
        · obtain rfl : k = j := by omega
          go_wp2
          go_ret
          exact ⟨ret_int (by rw [HE.out]), rfl⟩
  exact hw1

set_option maxHeartbeats 1000000 in
theorem grouping_any (v : Value) (es : List Int) (n m : Int) (w : World) (hv : IsInts w v es) (hl : es.length ≤ 9223372036854775807) (hn : 0 ≤ n) (hn2 : n ≤ 1000000) :
    Calls Try.prog 19 #[.int .i64 n, .int .i64 m, v] w fun e w' => e = .returned (.bool (Sc.grpI m n 0 es)) ∧ w = w' := by
  obtain ⟨A, c, rfl, hr⟩ := hv
  have HR := Lib.hid hr
  clear hr
  go_enter Try.func19, Try.ntmps19
  go_wp2
  go_loop [7, 8] (fun l i => ∃ (k : Nat) (z : Int), k ≤ es.length ∧ i = .int .i64 k ∧ l = .int .i64 z ∧ 0 ≤ z ∧ z ≤ 1000000 ∧ Hid (Sc.grpI m n 0 es = Sc.grpI m n z (es.drop k))) (fun _ i => es.length - (intOf i).toNat)
  case atStart => exact ⟨0, 0, Nat.zero_le _, rfl, rfl, by decide, by decide, rfl⟩
  case round =>
    obtain ⟨k, z, hk, rfl, rfl, hz0, hz1, H⟩ := hrel
    by_cases hlt : k < es.length
    · obtain ⟨b, off, rfl, _, hc⟩ := ints_at HR.out hlt
      have HS := H.out
      rw [List.drop_eq_getElem_cons hlt, Sc.grpI] at HS
      generalize es[k] = x at *
      replace HS := Lib.hid HS
      by_cases h1 : x ≤ z
      · have d1 : decide (x ≤ z) = true := decide_eq_true h1
        have HE := Lib.hid (HS.out.trans (if_pos (.inl h1)))
        clear h1
        go_wp2
        go_ret
        exact ⟨ret_bool HE.out.symm, rfl⟩
      by_cases h2 : n < x
      · have d1 : decide (x ≤ z) = false := decide_eq_false h1
        have d2 : decide (n < x) = true := decide_eq_true h2
        have HE := Lib.hid (HS.out.trans (if_pos (.inr (.inl h2))))
        clear h1 h2
        go_wp2
        go_ret
        exact ⟨ret_bool HE.out.symm, rfl⟩
      by_cases h3 : m < x - z
      · have d1 : decide (x ≤ z) = false := decide_eq_false h1
        have d2 : decide (n < x) = false := decide_eq_false h2
        have d3 : decide (m < x - z) = true := decide_eq_true h3
        have HE := Lib.hid (HS.out.trans (if_pos (.inr (.inr h3))))
        have hw : IntKind.i64.wrap (x - z) = x - z := by rw [IntKind.wrap_i64]; omega
        clear h3
        go_wp2
        go_ret
        exact ⟨ret_bool HE.out.symm, rfl⟩
      · have d1 : decide (x ≤ z) = false := decide_eq_false h1
        have d2 : decide (n < x) = false := decide_eq_false h2
        have d3 : decide (m < x - z) = false := decide_eq_false h3
        have HE := Lib.hid (HS.out.trans (if_neg (by omega)))
        have hw : IntKind.i64.wrap (x - z) = x - z := by rw [IntKind.wrap_i64]; omega
        clear h3
        go_wp2
        go_round
        case rel => exact ⟨k + 1, x, by omega, by go_num, rfl, by omega, by omega, HE⟩
        case measure => simp [intOf]; omega
    · have HS := H.out
      rw [List.drop_of_length_le (by omega), Sc.grpI] at HS
      have HE := Lib.hid HS
      go_wp2
      go_ret
      exact ⟨ret_bool (by first | rw [HE.out] | skip; by_cases h : z = n <;> simp [h]), rfl⟩

set_option maxHeartbeats 2000000 in
theorem done_any (v u z : Value) (q : Sc.Qs) (es : List Nat) (w : World) (hv : IsInts w v q.r) (hu : IsInts w u q.d) (hz : IsInts w z (Sc.toI es)) (hq : Sc.ok q) (hg : Sc.Grp q.m q.r.length 0 es) :
    Calls Try.prog 20 #[v, u, .int .i64 q.f, z] w fun e w' => e = .returned (.int .i64 (Sc.doneAt q 0 0 es)) ∧ w = w' := by
  have HV := Lib.hid hv
  have HU := Lib.hid hu
  obtain ⟨A, c, rfl, hr⟩ := hv
  obtain ⟨A2, c2, rfl, hr2⟩ := hu
  obtain ⟨A3, c3, rfl, hr3⟩ := hz
  have HR3 := Lib.hid hr3
  have HQ := Lib.hid hq
  have HG := Lib.hid hg
  have hlen := hq.len
  have hn := hq.n
  have hel : es.length ≤ 64 := by have := Sc.grp_len hg; omega
  have htl := Sc.toI_len es
  rw [htl]
  clear hr hr2 hr3 hq hg hlen
  go_enter Try.func20, Try.ntmps20
  go_wp2
  go_loop [9, 10, 11] (fun t l i => ∃ (k : Nat), k ≤ es.length ∧ i = .int .i64 k ∧ t = .int .i64 (Sc.doneAt q 0 0 (es.take k)) ∧ l = .int .i64 ((es.take k).getLastD 0 : Nat)) (fun _ _ i => es.length - (intOf i).toNat)
  case atStart => exact ⟨0, Nat.zero_le _, rfl, rfl, rfl⟩
  case round =>
    obtain ⟨k, hk, rfl, rfl, rfl⟩ := hrel
    by_cases hlt : k < es.length
    · obtain ⟨b, off, rfl, _, hc⟩ := ints_at HR3.out (k := k) (by rw [htl]; exact hlt)
      rw [Sc.toI_get es k hlt] at hc
      obtain ⟨g1, g2, g3⟩ := Sc.grp_at HG.out hlt
      obtain ⟨b1, b2, b3⟩ := Sc.done_bd HQ.out HG.out k hk
      have HS := Lib.hid (Sc.done_snoc q 0 0 hlt)
      have HL := Lib.hid (Sc.last_snoc (i := 0) hlt)
      generalize es[k] = e at *
      generalize (es.take k).getLastD 0 = l at *
      generalize Sc.doneAt q 0 0 (es.take k) = t at *
      go_wp2_with (fail)
      refine (refScreen_any _ _ q l e t _ HV.out HU.out HQ.out g1 g2 b1 (by omega)).mono ?_
      rintro e' _ ⟨rfl, rfl⟩
      go_wp2_with (fail)
      go_round
      case rel => exact ⟨k + 1, by omega, by go_num, by rw [HS.out], by rw [HL.out]⟩
      case measure => simp [intOf]; omega
    · have HE := Lib.hid (show es.take k = es from List.take_of_length_le (by omega))
      go_wp2
      go_ret
      exact ⟨ret_int (by rw [HE.out]), rfl⟩
end Go.Proofs.Ytchjjcmlekknfaa

/- Walks of inTime and Accepts. -/
import Derived.Test.YtofllhbcediafaaW3
import Derived.Test.YtofllhbcediafaaIter
namespace Go.Proofs.Ytofllhbcediafaa
open Go.RowKit
set_option linter.unusedVariables false

theorem boxed_drewN {W : World} {B : Nat} {t : TypeId} {v : Value} (h : Boxed W B t v) (n : Nat) : Boxed (W.drewN n) B t v := h

/-- what check lets through -/
structure Right (l : List (List Pl.Life)) (ds : List Int) : Prop where
  few : l.length ≤ 1024
  len : ds.length = l.length
  some_ : ∀ k (h : k < l.length), 0 < l[k].length
  most : ∀ k (h : k < l.length), l[k].length ≤ 16
  word : ∀ k (h : k < l.length) (h' : k < ds.length), Pl.wordOk l[k] ds[k] = true

theorem right_of {l : List (List Pl.Life)} {ds : List Int} (h : Pl.err l ds = 0) : Right l ds := by
  have h1 : ¬ (1024 < l.length || l.any Pl.long) = true := by
    intro hc; unfold Pl.err at h; rw [if_pos hc] at h; omega
  have h2 : ds.length = l.length := by
    unfold Pl.err at h; rw [if_neg h1] at h
    by_cases hd : ds.length = l.length
    · exact hd
    · rw [if_neg hd] at h; omega
  have h3 : Pl.allOk l ds = true := by
    unfold Pl.err at h; rw [if_neg h1, if_pos h2] at h
    by_cases hd : Pl.allOk l ds = true
    · exact hd
    · rw [if_neg hd] at h; omega
  simp only [Bool.or_eq_true, decide_eq_true_eq, not_or, Bool.not_eq_true] at h1
  have hw : ∀ k (h : k < l.length) (h' : k < ds.length), Pl.wordOk l[k] ds[k] = true := fun k hk hk' => by
    cases hx : Pl.wordOk l[k] ds[k]
    · have := Pl.allOk_false l ds k hk hk' hx
      rw [this] at h3; cases h3
    · rfl
  refine ⟨by omega, h2, fun k hk => ?_, fun k hk => len16 h1.2 hk, hw⟩
  have := hw k hk (by omega)
  simp only [Pl.wordOk, Bool.and_eq_true, decide_eq_true_eq] at this
  exact this.1.1.1

set_option maxHeartbeats 1000000 in
theorem inTime_any (v u x : Value) (l : List (List Pl.Life)) (ds s : List Int) (w : World) (hv : IsWords w v l) (hu : IsInts w u ds) (hx : IsInts w x s) (hR : Right l ds) (hl : s.length ≤ 9223372036854775807) :
    Calls Try.prog 26 #[v, u, x] w fun e w' => e = .returned (.bool (Pl.inTime l ds s)) ∧ Below w.heap.size w w' := by
  have HV := Lib.hid hv
  have HU := Lib.hid hu
  have HX := Lib.hid hx
  have HRt := Lib.hid hR
  have hfew := hR.few
  obtain ⟨A, cap, vs, rfl, hlen, hr, hvs⟩ := hv
  obtain ⟨A2, cap2, rfl, hr2⟩ := hu
  obtain ⟨A3, cap3, rfl, hr3⟩ := hx
  clear hr hvs hlen hr2 hr3 hR
  have hB : Below w.heap.size w ((((w.alloc (.cells #[.slice A l.length cap] 22)).alloc (.cells #[.slice A2 ds.length cap2] 23)).alloc (.cells #[.slice A3 s.length cap3] 23)).alloc (.cells #[.int .i64 0] 3)) :=
    ((((Below.refl _ w).alloc (Nat.le_refl _) _).alloc (by simp) _).alloc (by simp; omega) _).alloc (by simp; omega) _
  have HB := Lib.hid hB
  clear hB
  have hmf : ∀ (fn : Fn) (first cap : Array Value) (w : World), (Instr.makeFunc fn first cap).run Try.prog w = .ok (.func fn first cap) w := fun _ _ _ _ => rfl
  by_cases hne : s.length = l.length
  · have hnb : ((s.length : Int) != (l.length : Int)) = false := by simp [hne]
    have h1 : s.length ≤ l.length := by omega
    have h2 : l.length ≤ s.length := by omega
    have HN := Lib.hid hne
    clear hne
    go_enter Try.func26, Try.ntmps26
    go_wp2_with (fail)
    go_loopw [18] (fun i wr => ∃ k : Nat, k ≤ s.length ∧ i = .int .i64 k ∧ Hid (Pl.inT 0 l ds (s.take k) = true) ∧ Boxed wr w.heap.size 22 (.slice A l.length cap) ∧ Boxed wr (w.heap.size + 1) 23 (.slice A2 ds.length cap2) ∧ Boxed wr (w.heap.size + 1 + 1) 23 (.slice A3 s.length cap3) ∧ Boxed wr (w.heap.size + 1 + 1 + 1) 3 (.int .i64 (Pl.lastS 0 (s.take k))) ∧ Below w.heap.size w wr) (fun i _ => s.length - (intOf i).toNat)
    case atStart =>
      refine ⟨0, Nat.zero_le _, rfl, rfl, ?_, ?_, ?_, ?_, HB.out⟩
      · exact (((Boxed.new w 22 _).alloc _).alloc _).alloc _
      · have := ((Boxed.new (w.alloc (.cells #[.slice A l.length cap] 22)) 23 (.slice A2 ds.length cap2)).alloc (.cells #[.slice A3 s.length cap3] 23)).alloc (.cells #[.int .i64 0] 3)
        simpa using this
      · have := (Boxed.new ((w.alloc (.cells #[.slice A l.length cap] 22)).alloc (.cells #[.slice A2 ds.length cap2] 23)) 23 (.slice A3 s.length cap3)).alloc (.cells #[.int .i64 0] 3)
        simpa using this
      · have := Boxed.new (((w.alloc (.cells #[.slice A l.length cap] 22)).alloc (.cells #[.slice A2 ds.length cap2] 23)).alloc (.cells #[.slice A3 s.length cap3] 23)) 3 (.int .i64 0)
        simpa [Pl.lastS] using this
    case round =>
      obtain ⟨k, hk, rfl, H, x1, x2, x3, x4, hbw⟩ := hrel
      by_cases hlt : k < s.length
      · have k2 : k < l.length := by omega
        have k3 : k < ds.length := by have := HRt.out.len; omega
        have HT := Lib.hid (Pl.inT_take 0 l ds s k hlt k2 k3)
        have HL := Lib.hid (Pl.lastS_take 0 s k hlt)
        have HNo := Lib.hid (Pl.inT_no 0 l ds s k hlt k2 k3)
        have hcall := late_any k (w.heap.size + 1 + 1) (w.heap.size + 1 + 1 + 1) w.heap.size (w.heap.size + 1) _ _ _ l ds s _ wr x3.cell x4 x1.cell x2.cell (HX.out.below hbw) (HV.out.below hbw) (HU.out.below hbw) hlt k2 k3 (HRt.out.some_ k k2)
        have HC := Lib.hid hcall
        have hb' : Below w.heap.size w (wr.setCell ⟨w.heap.size + 1 + 1 + 1, 0, none⟩ (.int .i64 s[k])) := hbw.setCell (by show w.heap.size ≤ w.heap.size + 1 + 1 + 1; omega) _
        have y1 := x1.other (B' := w.heap.size + 1 + 1 + 1) (by omega) (.int .i64 s[k])
        have y2 := x2.other (B' := w.heap.size + 1 + 1 + 1) (by omega) (.int .i64 s[k])
        have y3 := x3.other (B' := w.heap.size + 1 + 1 + 1) (by omega) (.int .i64 s[k])
        have y4 := x4.set (.int .i64 s[k])
        have HY := Lib.hid (And.intro y1 (And.intro y2 (And.intro y3 y4)))
        have HB' := Lib.hid hb'
        clear hcall y1 y2 y3 y4 hb'
        cases ho : Pl.tOk (Pl.lastS 0 (s.take k)) (Pl.born l[k]) ds[k] s[k]
        · go_wp2_with (fail)
          refine HC.out.mono ?_
          rintro e w' ⟨rfl, n, rfl⟩
          rw [ho]
          go_wp2_with (fail)
          go_ret
          exact ⟨ret_bool (by simp [Pl.inTime, HN.out, HNo.out ho]), below_drewN HB'.out _⟩
        · go_wp2_with (fail)
          refine HC.out.mono ?_
          rintro e w' ⟨rfl, n, rfl⟩
          rw [ho]
          go_wp2_with (fail)
          go_roundw
          case rel => exact ⟨k + 1, by omega, by go_num, by show _ = _; rw [HT.out, H.out, ho]; rfl, boxed_drewN HY.out.1 _, boxed_drewN HY.out.2.1 _, boxed_drewN HY.out.2.2.1 _, by rw [HL.out]; exact boxed_drewN HY.out.2.2.2 _, below_drewN HB'.out _⟩
          case measure => first | omega | (simp [intOf]; omega)
      · go_wp2_with (fail)
        go_ret
        have := H.out
        rw [List.take_of_length_le (by omega)] at this
        exact ⟨ret_bool (by simp [Pl.inTime, HN.out, this]), hbw⟩
  · have hnb : ((s.length : Int) != (l.length : Int)) = true := by simp; omega
    go_enter Try.func26, Try.ntmps26
    go_wp2_with (fail)
    go_ret
    exact ⟨ret_bool (by simp [Pl.inTime, hne]), HB.out⟩

end Go.Proofs.Ytofllhbcediafaa

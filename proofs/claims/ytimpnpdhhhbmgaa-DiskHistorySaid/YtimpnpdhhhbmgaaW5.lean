/- Walks of runs, has, the reference's Read. -/
import Derived.Test.YtimpnpdhhhbmgaaW4
namespace Go.Proofs.Ytimpnpdhhhbmgaa
open Go.RowKit
set_option linter.unusedVariables false
set_option linter.unusedSimpArgs false

theorem Check_is {d : Dk} {v : Value} {w : World} (hv : IsD w v d) {r : Int} (hr : Dv.chk d = r) : Calls Try.prog 15 #[v] w fun e w' => e = .returned (.int .i64 r) ∧ Below w.heap.size w w' := by subst hr; exact Check_any hv
theorem refCheck_is {d : Dk} {v : Value} {w : World} (hv : IsD w v d) {r : Int} (hr : Dv.chk d = r) : Calls Try.prog 16 #[v] w fun e w' => e = .returned (.int .i64 r) ∧ Below w.heap.size w w' := by subst hr; exact refCheck_any hv

set_option maxHeartbeats 2000000 in
theorem runs_is {d : Dk} {v : Value} {w : World} (hv : IsD w v d) {b : Bool} (hb : decide (Dv.Run d) = b) :
    Calls Try.prog 35 #[v] w fun e w' => e = .returned (.bool b) ∧ Below w.heap.size w w' := by
  have HV := Lib.hid hv
  obtain ⟨A, c, A2, c2, rfl, h1, h2⟩ := hv.open_
  obtain ⟨ss, ps, left, st⟩ := d
  have HBB := Lib.hid hb
  clear hb h1 h2 hv
  simp only at HV ⊢
  have HX := Lib.hid (Cells.new w 25 [Value.slice A ss.length c, Value.slice A2 ps.length c2, Value.int IntKind.i64 left, Value.bool st])
  by_cases ho : Dv.Ok ⟨ss, ps, left, st⟩
  · have HO := Lib.hid (chk_yes ho)
    obtain rfl : (!st) = b := by rw [← HBB.out]; unfold Dv.Run; cases st <;> simp [ho]
    clear ho
    go_enter Try.func35, Try.ntmps35
    go_wp2_with (fail)
    refine (Check_is (HV.out.upb (al1 _ _)) HO.out).mono ?_
    rintro e w1 ⟨rfl, b1⟩
    have hc3 := (HX.out.upb b1).cell (k := 3) rfl
    have HB1 := Lib.hid ((al1 _ _).up b1)
    clear b1
    go_wp2_with (fail)
    go_ret
    exact ⟨rfl, HB1.out⟩
  · have HO := Lib.hid (chk_no ho)
    obtain rfl : false = b := by rw [← HBB.out]; unfold Dv.Run; simp [ho]
    clear ho
    go_enter Try.func35, Try.ntmps35
    go_wp2_with (fail)
    refine (Check_is (HV.out.upb (al1 _ _)) HO.out).mono ?_
    rintro e w1 ⟨rfl, b1⟩
    have HB1 := Lib.hid ((al1 _ _).up b1)
    clear b1
    go_wp2_with (fail)
    go_ret
    exact ⟨rfl, HB1.out⟩

set_option maxHeartbeats 2000000 in
theorem has_is {d : Dk} {v : Value} {w : World} (hv : IsD w v d) {a : Int} {b : Bool} (hb : decide (Dv.Has d a) = b) :
    Calls Try.prog 36 #[v, .int .i64 a] w fun e w' => e = .returned (.bool b) ∧ Below w.heap.size w w' := by
  obtain ⟨A, c, A2, c2, rfl, h1, h2⟩ := hv.open_
  obtain ⟨ss, ps, left, st⟩ := d
  have HBB := Lib.hid hb
  clear hb h1 h2 hv
  simp only at HBB ⊢
  by_cases h0 : 0 ≤ a
  · have d0 : decide (0 ≤ a) = true := decide_eq_true h0
    obtain ⟨x, hx⟩ : ∃ x, decide (a < (ss.length : Int)) = x := ⟨_, rfl⟩
    obtain rfl : x = b := by rw [← HBB.out, ← hx]; unfold Dv.Has; simp [h0]
    clear h0
    go_enter Try.func36, Try.ntmps36
    go_wp2_with (fail)
    go_ret
    exact ⟨by first | rfl | exact ret_bool hx, al1 _ _⟩
  · have d0 : decide (0 ≤ a) = false := decide_eq_false h0
    obtain rfl : false = b := by rw [← HBB.out]; unfold Dv.Has; simp [h0]
    clear h0
    go_enter Try.func36, Try.ntmps36
    go_wp2_with (fail)
    go_ret
    exact ⟨rfl, al1 _ _⟩

theorem run_iff {d : Dk} : Dv.Run d ↔ Dv.chk d = 0 ∧ d.st = false := by
  unfold Dv.Run Dv.chk
  by_cases h : Dv.Ok d <;> simp [h]

set_option maxHeartbeats 4000000 in
theorem refRead_any {d : Dk} {v : Value} {w : World} (hv : IsD w v d) (a : Int) :
    Calls Try.prog 22 #[v, .int .i64 a] w fun e w' => ∃ u, e = .returned (.tuple #[u, .int .i64 (Dv.rdE d a)]) ∧ IsBytes w' u (Dv.rd d a) ∧ Below w.heap.size w w' := by
  have HV := Lib.hid hv
  obtain ⟨A, c, A2, c2, rfl, h1, h2⟩ := hv.open_
  obtain ⟨ss, ps, left, st⟩ := d
  simp only at HV h1 h2 ⊢
  have H1 := Lib.hid h1
  have H2 := Lib.hid h2
  have HX := Lib.hid (Cells.new w 25 [Value.slice A ss.length c, Value.slice A2 ps.length c2, Value.int IntKind.i64 left, Value.bool st])
  obtain ⟨e0, he⟩ : ∃ e, Dv.rdE ⟨ss, ps, left, st⟩ a = e := ⟨_, rfl⟩
  obtain ⟨r0, hr⟩ : ∃ e, Dv.rd ⟨ss, ps, left, st⟩ a = e := ⟨_, rfl⟩
  rw [he, hr]
  have HE := Lib.hid he
  have HR := Lib.hid hr
  clear h1 h2 he hr hv
  have HBAD := Lib.hid (show ¬ (Dv.Run ⟨ss, ps, left, st⟩ ∧ Dv.Has ⟨ss, ps, left, st⟩ a) → e0 = 40 ∧ r0 = [] from fun h => ⟨by rw [← HE.out]; exact if_neg h, by rw [← HR.out]; exact if_neg h⟩)
  by_cases ho : Dv.Ok ⟨ss, ps, left, st⟩
  · have HO := Lib.hid (chk_yes ho)
    cases st with
    | true =>
      obtain ⟨rfl, rfl⟩ := HBAD.out (fun h => by have := h.1.2; cases this)
      clear ho
      go_enter Try.func22, Try.ntmps22
      go_wp2_with (fail)
      refine (refCheck_is (HV.out.upb (al1 _ _)) HO.out).mono ?_
      rintro e w1 ⟨rfl, b1⟩
      have hc3 := (HX.out.upb b1).cell (k := 3) rfl
      have HB1 := Lib.hid ((al1 _ _).up b1)
      clear b1
      go_wp2_with (fail)
      go_ret2
      exact ⟨_, rfl, IsBytes.nil, HB1.out⟩
    | false =>
      by_cases t1 : a < 0
      · have dt1 : decide (a < 0) = true := decide_eq_true t1
        obtain ⟨rfl, rfl⟩ := HBAD.out (fun h => by have := h.2.1; omega)
        clear ho t1
        go_enter Try.func22, Try.ntmps22
        go_wp2_with (fail)
        refine (refCheck_is (HV.out.upb (al1 _ _)) HO.out).mono ?_
        rintro e w1 ⟨rfl, b1⟩
        have hc3 := (HX.out.upb b1).cell (k := 3) rfl
        have HB1 := Lib.hid ((al1 _ _).up b1)
        clear b1
        go_wp2_with (fail)
        go_ret2
        exact ⟨_, rfl, IsBytes.nil, HB1.out⟩
      have dt1 : decide (a < 0) = false := decide_eq_false t1
      by_cases t2 : (ss.length : Int) ≤ a
      · have dt2 : decide ((ss.length : Int) ≤ a) = true := decide_eq_true t2
        obtain ⟨rfl, rfl⟩ := HBAD.out (fun h => by have := h.2.2; simp only at this; omega)
        clear ho t1 t2
        go_enter Try.func22, Try.ntmps22
        go_wp2_with (fail)
        refine (refCheck_is (HV.out.upb (al1 _ _)) HO.out).mono ?_
        rintro e w1 ⟨rfl, b1⟩
        have hc3 := (HX.out.upb b1).cell (k := 3) rfl
        have hc0 := (HX.out.upb b1).cell (k := 0) rfl
        have HB1 := Lib.hid ((al1 _ _).up b1)
        clear b1
        go_wp2_with (fail)
        go_ret2
        exact ⟨_, rfl, IsBytes.nil, HB1.out⟩
      have dt2 : decide ((ss.length : Int) ≤ a) = false := decide_eq_false t2
      obtain ⟨m, rfl⟩ : ∃ m : Nat, a = m := ⟨a.toNat, by omega⟩
      have hml : m < ss.length := by omega
      have hyes : Dv.Run ⟨ss, ps, left, false⟩ ∧ Dv.Has ⟨ss, ps, left, false⟩ m := ⟨⟨ho, rfl⟩, by unfold Dv.Has; simp only; omega⟩
      obtain rfl : e0 = 0 := by rw [← HE.out]; exact if_pos hyes
      have HR2 := Lib.hid (show r0 = Dv.lastW ps m ss[m] by
        rw [← HR.out]; unfold Dv.rd; rw [if_pos hyes]
        simp [List.getD_eq_getElem?_getD, hml])
      have hp4 : (ps.length : Int) ≤ 4096 := by have := ho.p2; simp only at this; omega
      clear ho t1 t2 hyes
      go_enter Try.func22, Try.ntmps22
      go_wp2_with (fail)
      refine (refCheck_is (HV.out.upb (al1 _ _)) HO.out).mono ?_
      rintro e w1 ⟨rfl, b1⟩
      have hc3 := (HX.out.upb b1).cell (k := 3) rfl
      have hc0 := (HX.out.upb b1).cell (k := 0) rfl
      have hc1 := (HX.out.upb b1).cell (k := 1) rfl
      have HB1 := Lib.hid ((al1 _ _).up b1)
      clear b1
      obtain ⟨b, off, A', c', rfl, hb, hcs, hbs⟩ := bs_at (H1.out.upb HB1.out) hml
      have H3 := Lib.hid hbs
      clear hbs
      generalize ss[m] = s at *
      go_wp2_with (fail)
      go_loopw [6, 7] (fun u i wr => ∃ k : Nat, i = .int .i64 k ∧ k ≤ ps.length ∧ Hid (IsBytes w1 u (Dv.lastW (ps.take k) m s)) ∧ wr = w1) (fun _ i _ => ps.length - (intOf i).toNat)
      case atStart => exact ⟨0, rfl, Nat.zero_le _, Lib.hid H3.out, rfl⟩
      case round =>
        obtain ⟨k, rfl, hk, HL, rfl⟩ := hrel
        by_cases hlt2 : k < ps.length
        · obtain ⟨b2, off2, A3, c3, rfl, hb2, hcc1, hcc2, hcc3⟩ := ws_at (H2.out.upb HB1.out) hlt2
          have HS := Lib.hid (Dv.lastW_take_succ hlt2 m s)
          have HK := Lib.hid hcc3
          clear hcc3
          generalize ps[k] = p at *
          by_cases t : p.at_ = m
          · have dt : (p.at_ == (m : Int)) = true := by rw [t]; simp
            have HT := Lib.hid t
            clear t
            go_wp2_with (fail)
            go_roundw
            case rel => exact ⟨k + 1, by go_num, by omega, Lib.hid (by rw [HS.out, if_pos HT.out]; exact HK.out), by first | trivial | rfl⟩
            case measure => first | omega | (simp [intOf]; done) | (simp [intOf]; omega)
          · have dt : (p.at_ == (m : Int)) = false := beq_false_of_ne t
            have HT := Lib.hid t
            clear t
            go_wp2_with (fail)
            go_roundw
            case rel => exact ⟨k + 1, by go_num, by omega, Lib.hid (by rw [HS.out, if_neg HT.out]; exact HL.out), by first | trivial | rfl⟩
            case measure => first | omega | (simp [intOf]; done) | (simp [intOf]; omega)
        · obtain rfl : k = ps.length := by omega
          go_wp2_with (fail)
          go_ret2
          refine ⟨_, rfl, ?_, HB1.out⟩
          rw [HR2.out]
          have := HL.out
          rwa [List.take_length] at this
  · have HO := Lib.hid (chk_no ho)
    obtain ⟨rfl, rfl⟩ := HBAD.out (fun h => ho h.1.1)
    clear ho
    go_enter Try.func22, Try.ntmps22
    go_wp2_with (fail)
    refine (refCheck_is (HV.out.upb (al1 _ _)) HO.out).mono ?_
    rintro e w1 ⟨rfl, b1⟩
    have HB1 := Lib.hid ((al1 _ _).up b1)
    clear b1
    go_wp2_with (fail)
    go_ret2
    exact ⟨_, rfl, IsBytes.nil, HB1.out⟩
end Go.Proofs.Ytimpnpdhhhbmgaa

/- Walks of Stop and Restart, of both sides. -/
import Derived.Test.YtimpnpdhhhbmgaaW9
import Derived.Test.YtimpnpdhhhbmgaaW7
namespace Go.Proofs.Ytimpnpdhhhbmgaa
open Go.RowKit
set_option linter.unusedVariables false
set_option linter.unusedSimpArgs false

/-- a box of four is stored whole -/
def set4 (W : World) (B : Nat) (b0 b1 b2 b3 : Value) : World := (((W.setCell ⟨B, 0, none⟩ b0).setCell ⟨B, 1, none⟩ b1).setCell ⟨B, 2, none⟩ b2).setCell ⟨B, 3, none⟩ b3
theorem Cells.set4 {W : World} {B : Nat} {a0 a1 a2 a3 : Value} (h : Cells W B 25 [a0, a1, a2, a3]) (b0 b1 b2 b3 : Value) : Cells (set4 W B b0 b1 b2 b3) B 25 [b0, b1, b2, b3] :=
  (((h.set (k := 0) b0).set (k := 1) b1).set (k := 2) b2).set (k := 3) b3
theorem below_set4 {n : Nat} {w W : World} (h : Below n w W) {B : Nat} (hB : n ≤ B) (b0 b1 b2 b3 : Value) : Below n w (set4 W B b0 b1 b2 b3) :=
  (((h.setCell (p := ⟨B, 0, none⟩) hB b0).setCell (p := ⟨B, 1, none⟩) hB b1).setCell (p := ⟨B, 2, none⟩) hB b2).setCell (p := ⟨B, 3, none⟩) hB b3
def Shown (cs : List Value) : Prop := ∃ A n c A2 n2 c2 l st, cs = [.slice A n c, .slice A2 n2 c2, .int .i64 l, .bool st]
theorem dk_out {fn : Func} {B i j : Nat} {W : World} {tmps : Array Value} {e A n c A2 n2 c2 l st} (hres : fn.results = #[.cell i 25, .tmp j]) (t4 : tmps.getD i undef = .pointer (some ⟨B, 0, none⟩)) (t5 : tmps.getD j undef = .int .i64 e)
    (h : Cells W B 25 [.slice A n c, .slice A2 n2 c2, .int .i64 l, .bool st]) : (results fn tmps).run Try.prog W = .ok (.tuple #[.agg #[.slice A n c, .slice A2 n2 c2, .int .i64 l, .bool st], .int .i64 e]) W := by
  have t4' : tmps[i]?.getD undef = .pointer (some ⟨B, 0, none⟩) := by rw [← t4]; simp
  have t5' : tmps[j]?.getD undef = .int .i64 e := by rw [← t5]; simp
  have h0 := h.cell (k := 0) rfl
  have h1 := h.cell (k := 1) rfl
  have h2 := h.cell (k := 2) rfl
  have h3 := h.cell (k := 3) rfl
  simp [results, hres, go_sem, t4', t5', h0, h1, h2, h3]
theorem dk_out1 {fn : Func} {B i : Nat} {W : World} {tmps : Array Value} {A n c A2 n2 c2 l st} (hres : fn.results = #[.cell i 25]) (t4 : tmps.getD i undef = .pointer (some ⟨B, 0, none⟩))
    (h : Cells W B 25 [.slice A n c, .slice A2 n2 c2, .int .i64 l, .bool st]) : (results fn tmps).run Try.prog W = .ok (.agg #[.slice A n c, .slice A2 n2 c2, .int .i64 l, .bool st]) W := by
  have t4' : tmps[i]?.getD undef = .pointer (some ⟨B, 0, none⟩) := by rw [← t4]; simp
  have h0 := h.cell (k := 0) rfl
  have h1 := h.cell (k := 1) rfl
  have h2 := h.cell (k := 2) rfl
  have h3 := h.cell (k := 3) rfl
  simp [results, hres, go_sem, t4', h0, h1, h2, h3]
/-- where the sectors of a result lie: where those of the argument lie, or in new blocks -/
def Sec (n : Nat) (v x : Value) : Prop := ∃ sv pv l s sv' pv' l' s', v = .agg #[sv, pv, l, s] ∧ x = .agg #[sv', pv', l', s'] ∧ (sv' = sv ∨ ∀ b off k c, sv' = .slice (some ⟨b, off, none⟩) k c → n ≤ b)
theorem sec_same {n : Nat} {sv pv l s pv' l' s' : Value} : Sec n (.agg #[sv, pv, l, s]) (.agg #[sv, pv', l', s']) := ⟨_, _, _, _, _, _, _, _, rfl, rfl, .inl rfl⟩
theorem sec_nil {n : Nat} {sv pv l s pv' l' s' : Value} {k c : Nat} : Sec n (.agg #[sv, pv, l, s]) (.agg #[.slice none k c, pv', l', s']) := ⟨_, _, _, _, _, _, _, _, rfl, rfl, .inr (fun b off k c h => by injection h with h; cases h)⟩
theorem sec_ge {n g k c o : Nat} {sv pv l s pv' l' s' : Value} (h : n ≤ g) : Sec n (.agg #[sv, pv, l, s]) (.agg #[.slice (some ⟨g, o, none⟩) k c, pv', l', s']) := ⟨_, _, _, _, _, _, _, _, rfl, rfl, .inr (fun b off k c e => by injection e with e; injection e with e; injection e with e; omega)⟩
theorem isD_mk {W : World} {A c A2 c2 l st} {ss : List By} {ps : List Wr} {n n2 : Nat} (h1 : IsBs W (.slice A n c) ss) (h2 : IsWs W (.slice A2 n2 c2) ps) : IsD W (.agg #[.slice A n c, .slice A2 n2 c2, .int .i64 l, .bool st]) ⟨ss, ps, l, st⟩ := ⟨_, _, rfl, h1, h2⟩

set_option maxHeartbeats 2000000 in
theorem Restart_any {d : Dk} {v : Value} {w : World} (hv : IsD w v d) :
    Calls Try.prog 17 #[v] w fun e w' => ∃ u, e = .returned u ∧ IsD w' u (Dv.rs d) ∧ Below w.heap.size w w' ∧ Sec w.heap.size v u := by
  obtain ⟨A, c, A2, c2, rfl, h1, h2⟩ := hv.open_
  obtain ⟨ss, ps, left, st⟩ := d
  simp only at h1 h2 ⊢
  have H1 := Lib.hid h1
  clear hv h1 h2
  go_enter Try.func17, Try.ntmps17
  go_wp2_with (fail)
  have h := Cells.new (w.alloc (.cells #[Value.slice A ss.length c, Value.slice A2 ps.length c2, Value.int IntKind.i64 left, Value.bool st] 25)) 25 [Value.slice A ss.length c, Value.slice none 0 0, Value.int IntKind.i64 (-1), Value.bool false]
  simp only [World.size_alloc] at h
  refine bodyPost_ret (dk_out1 rfl rfl h) rfl ?_
  have hb := (al1 w (.cells #[Value.slice A ss.length c, Value.slice A2 ps.length c2, Value.int IntKind.i64 left, Value.bool st] 25)).up (al1 _ (.cells [Value.slice A ss.length c, Value.slice none 0 0, Value.int IntKind.i64 (-1), Value.bool false].toArray 25))
  exact ⟨_, rfl, isD_mk (H1.out.upb hb) IsWs.nil, hb, sec_same⟩

set_option maxHeartbeats 2000000 in
theorem refRestart_any {d : Dk} {v : Value} {w : World} (hv : IsD w v d) :
    Calls Try.prog 18 #[v] w fun e w' => ∃ u, e = .returned u ∧ IsD w' u (Dv.rs d) ∧ Below w.heap.size w w' ∧ Sec w.heap.size v u := by
  obtain ⟨A, c, A2, c2, rfl, h1, h2⟩ := hv.open_
  obtain ⟨ss, ps, left, st⟩ := d
  simp only at h1 h2 ⊢
  have H1 := Lib.hid h1
  clear hv h1 h2
  go_enter Try.func18, Try.ntmps18
  go_wp2_with (fail)
  have h := Cells.new (w.alloc (.cells #[Value.slice A ss.length c, Value.slice A2 ps.length c2, Value.int IntKind.i64 left, Value.bool st] 25)) 25 [Value.slice A ss.length c, Value.slice none 0 0, Value.int IntKind.i64 (-1), Value.bool false]
  simp only [World.size_alloc] at h
  refine bodyPost_ret (dk_out1 rfl rfl h) rfl ?_
  have hb := (al1 w (.cells #[Value.slice A ss.length c, Value.slice A2 ps.length c2, Value.int IntKind.i64 left, Value.bool st] 25)).up (al1 _ (.cells [Value.slice A ss.length c, Value.slice none 0 0, Value.int IntKind.i64 (-1), Value.bool false].toArray 25))
  exact ⟨_, rfl, isD_mk (H1.out.upb hb) IsWs.nil, hb, sec_same⟩

set_option maxHeartbeats 4000000 in
theorem Stop_any {d : Dk} {v : Value} {w : World} (hv : IsD w v d) (l : Int) :
    Calls Try.prog 25 #[v, .int .i64 l] w fun e w' => ∃ u, e = .returned (.tuple #[u, .int .i64 (Dv.stE d l)]) ∧ IsD w' u (Dv.stp d l) ∧ Below w.heap.size w w' ∧ Sec w.heap.size v u := by
  have HV := Lib.hid hv
  obtain ⟨A, c, A2, c2, rfl, h1, h2⟩ := hv.open_
  obtain ⟨ss, ps, left, st⟩ := d
  simp only at HV h1 h2 ⊢
  have H1 := Lib.hid h1
  have H2 := Lib.hid h2
  clear hv h1 h2
  obtain ⟨e0, he⟩ : ∃ e, Dv.stE ⟨ss, ps, left, st⟩ l = e := ⟨_, rfl⟩
  obtain ⟨r0, hr⟩ : ∃ e, Dv.stp ⟨ss, ps, left, st⟩ l = e := ⟨_, rfl⟩
  rw [he, hr]
  have HE := Lib.hid he
  have HR := Lib.hid hr
  clear he hr
  have HX := Lib.hid ((Cells.new w 25 [Value.slice A ss.length c, Value.slice A2 ps.length c2, Value.int IntKind.i64 left, Value.bool st]).upb (al1 _ (.cells #[.slice none 0 0, .slice none 0 0, .int .i64 0, .bool false] 25)))
  have HZ := Lib.hid (Cells.new (w.alloc (.cells [Value.slice A ss.length c, Value.slice A2 ps.length c2, Value.int IntKind.i64 left, Value.bool st].toArray 25)) 25 [.slice none 0 0, .slice none 0 0, .int .i64 0, .bool false])
  have HB := Lib.hid ((al1 w (.cells [Value.slice A ss.length c, Value.slice A2 ps.length c2, Value.int IntKind.i64 left, Value.bool st].toArray 25)).up (al1 _ (.cells #[.slice none 0 0, .slice none 0 0, .int .i64 0, .bool false] 25)))
  obtain ⟨rb, hrb⟩ : ∃ b, decide (Dv.Run ⟨ss, ps, left, st⟩) = b := ⟨_, rfl⟩
  go_enter Try.func25, Try.ntmps25
  go_wp2_with (fail)
  refine (runs_is (HV.out.upb HB.out) hrb).mono ?_
  rintro e w1 ⟨rfl, b1⟩
  have HX1 := Lib.hid (HX.out.upb b1)
  have HZ1 := Lib.hid (HZ.out.upb b1)
  have HB1 := Lib.hid (HB.out.up b1)
  clear b1 HX HZ HB
  have hzw := HZ1.out.lt
  simp only [World.size_alloc] at HZ1 hzw
  have z0 := HZ1.out.cell (k := 0) rfl
  have z1 := HZ1.out.cell (k := 1) rfl
  have z2 := HZ1.out.cell (k := 2) rfl
  have z3 := HZ1.out.cell (k := 3) rfl
  have f0 := HZ1.out.frozen 0
  have f1 := HZ1.out.frozen 1
  have f2 := HZ1.out.frozen 2
  have f3 := HZ1.out.frozen 3
  have x0 := HX1.out.cell (k := 0) rfl
  have x1 := HX1.out.cell (k := 1) rfl
  have x2 := HX1.out.cell (k := 2) rfl
  have x3 := HX1.out.cell (k := 3) rfl
  have g2 := HX1.out.frozen 2
  cases rb with
  | false =>
    have hn := of_decide_eq_false hrb
    obtain rfl : e0 = 40 := by rw [← HE.out]; exact if_neg hn
    obtain rfl : r0 = d0 := by rw [← HR.out]; exact if_neg hn
    clear hrb hn
    go_wp2_with (fail)
    refine bodyPost_ret (dk_out rfl rfl rfl (HZ1.out.set4 (.slice none 0 0) (.slice none 0 0) (.int .i64 0) (.bool false))) rfl ?_
    exact ⟨_, rfl, IsD.zero, below_set4 HB1.out (by omega) _ _ _ _, sec_nil⟩
  | true =>
  have HRUN := Lib.hid (of_decide_eq_true hrb)
  clear hrb
  by_cases t1 : l < 0
  · have dt1 : decide (l < 0) = true := decide_eq_true t1
    obtain rfl : e0 = 1 := by rw [← HE.out]; unfold Dv.stE; rw [if_pos HRUN.out, if_neg (by omega)]
    obtain rfl : r0 = d0 := by rw [← HR.out]; unfold Dv.stp; rw [if_pos HRUN.out, if_neg (by omega)]
    clear t1
    go_wp2_with (fail)
    refine bodyPost_ret (dk_out rfl rfl rfl (HZ1.out.set4 (.slice none 0 0) (.slice none 0 0) (.int .i64 0) (.bool false))) rfl ?_
    exact ⟨_, rfl, IsD.zero, below_set4 HB1.out (by omega) _ _ _ _, sec_nil⟩
  have dt1 : decide (l < 0) = false := decide_eq_false t1
  by_cases t2 : 65536 < l
  · have dt2 : decide (65536 < l) = true := decide_eq_true t2
    obtain rfl : e0 = 1 := by rw [← HE.out]; unfold Dv.stE; rw [if_pos HRUN.out, if_neg (by omega)]
    obtain rfl : r0 = d0 := by rw [← HR.out]; unfold Dv.stp; rw [if_pos HRUN.out, if_neg (by omega)]
    clear t1 t2
    go_wp2_with (fail)
    refine bodyPost_ret (dk_out rfl rfl rfl (HZ1.out.set4 (.slice none 0 0) (.slice none 0 0) (.int .i64 0) (.bool false))) rfl ?_
    exact ⟨_, rfl, IsD.zero, below_set4 HB1.out (by omega) _ _ _ _, sec_nil⟩
  have dt2 : decide (65536 < l) = false := decide_eq_false t2
  obtain rfl : e0 = 0 := by rw [← HE.out]; unfold Dv.stE; rw [if_pos HRUN.out, if_pos (by omega)]
  obtain rfl : r0 = ⟨ss, ps, l, st⟩ := by rw [← HR.out]; unfold Dv.stp; rw [if_pos HRUN.out, if_pos (by omega)]
  clear t1 t2
  go_wp2_with (fail)
  have HZ2 := (HZ1.out.other (show w.heap.size + 1 ≠ w.heap.size by omega) 2 (.int .i64 l)).set4 (.slice A ss.length c) (.slice A2 ps.length c2) (.int .i64 l) (.bool st)
  refine bodyPost_ret (dk_out rfl rfl rfl HZ2) rfl ?_
  have hb := below_set4 (HB1.out.setCell (p := ⟨w.heap.size, 2, none⟩) (Nat.le_refl _) (.int .i64 l)) (show w.heap.size ≤ w.heap.size + 1 by omega) (.slice A ss.length c) (.slice A2 ps.length c2) (.int .i64 l) (.bool st)
  exact ⟨_, rfl, isD_mk (H1.out.upb hb) (H2.out.upb hb), hb, sec_same⟩

set_option maxHeartbeats 4000000 in
theorem refStop_any {d : Dk} {v : Value} {w : World} (hv : IsD w v d) (l : Int) :
    Calls Try.prog 26 #[v, .int .i64 l] w fun e w' => ∃ u, e = .returned (.tuple #[u, .int .i64 (Dv.stE d l)]) ∧ IsD w' u (Dv.stp d l) ∧ Below w.heap.size w w' ∧ Sec w.heap.size v u := by
  have HV := Lib.hid hv
  obtain ⟨A, c, A2, c2, rfl, h1, h2⟩ := hv.open_
  obtain ⟨ss, ps, left, st⟩ := d
  simp only at HV h1 h2 ⊢
  have H1 := Lib.hid h1
  have H2 := Lib.hid h2
  clear hv h1 h2
  obtain ⟨e0, he⟩ : ∃ e, Dv.stE ⟨ss, ps, left, st⟩ l = e := ⟨_, rfl⟩
  obtain ⟨r0, hr⟩ : ∃ e, Dv.stp ⟨ss, ps, left, st⟩ l = e := ⟨_, rfl⟩
  rw [he, hr]
  have HE := Lib.hid he
  have HR := Lib.hid hr
  clear he hr
  have HX := Lib.hid ((Cells.new w 25 [Value.slice A ss.length c, Value.slice A2 ps.length c2, Value.int IntKind.i64 left, Value.bool st]).upb (al1 _ (.cells #[.slice none 0 0, .slice none 0 0, .int .i64 0, .bool false] 25)))
  have HZ := Lib.hid (Cells.new (w.alloc (.cells [Value.slice A ss.length c, Value.slice A2 ps.length c2, Value.int IntKind.i64 left, Value.bool st].toArray 25)) 25 [.slice none 0 0, .slice none 0 0, .int .i64 0, .bool false])
  have HB := Lib.hid ((al1 w (.cells [Value.slice A ss.length c, Value.slice A2 ps.length c2, Value.int IntKind.i64 left, Value.bool st].toArray 25)).up (al1 _ (.cells #[.slice none 0 0, .slice none 0 0, .int .i64 0, .bool false] 25)))
  obtain ⟨k0, hk0⟩ : ∃ k0, Dv.chk ⟨ss, ps, left, st⟩ = k0 := ⟨_, rfl⟩
  have HK0 := Lib.hid hk0
  have HRI := Lib.hid (show Dv.Run ⟨ss, ps, left, st⟩ ↔ k0 = 0 ∧ st = false by rw [← hk0]; exact run_iff)
  clear hk0
  go_enter Try.func26, Try.ntmps26
  go_wp2_with (fail)
  refine (refCheck_is (HV.out.upb HB.out) HK0.out).mono ?_
  rintro e w1 ⟨rfl, b1⟩
  have HX1 := Lib.hid (HX.out.upb b1)
  have HZ1 := Lib.hid (HZ.out.upb b1)
  have HB1 := Lib.hid (HB.out.up b1)
  clear b1 HX HZ HB
  have hzw := HZ1.out.lt
  simp only [World.size_alloc] at HZ1 hzw
  have z0 := HZ1.out.cell (k := 0) rfl
  have z1 := HZ1.out.cell (k := 1) rfl
  have z2 := HZ1.out.cell (k := 2) rfl
  have z3 := HZ1.out.cell (k := 3) rfl
  have f0 := HZ1.out.frozen 0
  have f1 := HZ1.out.frozen 1
  have f2 := HZ1.out.frozen 2
  have f3 := HZ1.out.frozen 3
  have x0 := HX1.out.cell (k := 0) rfl
  have x1 := HX1.out.cell (k := 1) rfl
  have x2 := HX1.out.cell (k := 2) rfl
  have x3 := HX1.out.cell (k := 3) rfl
  have g2 := HX1.out.frozen 2
  by_cases hk : k0 = 0
  · subst hk
    cases st with
    | true =>
      have hn : ¬ Dv.Run ⟨ss, ps, left, true⟩ := fun h => by have := (HRI.out.1 h).2; cases this
      obtain rfl : e0 = 40 := by rw [← HE.out]; exact if_neg hn
      obtain rfl : r0 = d0 := by rw [← HR.out]; exact if_neg hn
      clear hn
      go_wp2_with (fail)
      refine bodyPost_ret (dk_out rfl rfl rfl (HZ1.out.set4 (.slice none 0 0) (.slice none 0 0) (.int .i64 0) (.bool false))) rfl ?_
      exact ⟨_, rfl, IsD.zero, below_set4 HB1.out (by omega) _ _ _ _, sec_nil⟩
    | false =>
      have HRUN := Lib.hid (HRI.out.2 ⟨rfl, rfl⟩)
      by_cases t1 : l < 0
      · have dt1 : decide (l < 0) = true := decide_eq_true t1
        obtain rfl : e0 = 1 := by rw [← HE.out]; unfold Dv.stE; rw [if_pos HRUN.out, if_neg (by omega)]
        obtain rfl : r0 = d0 := by rw [← HR.out]; unfold Dv.stp; rw [if_pos HRUN.out, if_neg (by omega)]
        clear t1
        go_wp2_with (fail)
        refine bodyPost_ret (dk_out rfl rfl rfl (HZ1.out.set4 (.slice none 0 0) (.slice none 0 0) (.int .i64 0) (.bool false))) rfl ?_
        exact ⟨_, rfl, IsD.zero, below_set4 HB1.out (by omega) _ _ _ _, sec_nil⟩
      have dt1 : decide (l < 0) = false := decide_eq_false t1
      by_cases t2 : 65536 < l
      · have dt2 : decide (65536 < l) = true := decide_eq_true t2
        obtain rfl : e0 = 1 := by rw [← HE.out]; unfold Dv.stE; rw [if_pos HRUN.out, if_neg (by omega)]
        obtain rfl : r0 = d0 := by rw [← HR.out]; unfold Dv.stp; rw [if_pos HRUN.out, if_neg (by omega)]
        clear t1 t2
        go_wp2_with (fail)
        refine bodyPost_ret (dk_out rfl rfl rfl (HZ1.out.set4 (.slice none 0 0) (.slice none 0 0) (.int .i64 0) (.bool false))) rfl ?_
        exact ⟨_, rfl, IsD.zero, below_set4 HB1.out (by omega) _ _ _ _, sec_nil⟩
      have dt2 : decide (65536 < l) = false := decide_eq_false t2
      obtain rfl : e0 = 0 := by rw [← HE.out]; unfold Dv.stE; rw [if_pos HRUN.out, if_pos (by omega)]
      obtain rfl : r0 = ⟨ss, ps, l, false⟩ := by rw [← HR.out]; unfold Dv.stp; rw [if_pos HRUN.out, if_pos (by omega)]
      clear t1 t2
      go_wp2_with (fail)
      have HZ2 := (HZ1.out.other (show w.heap.size + 1 ≠ w.heap.size by omega) 2 (.int .i64 l)).set4 (.slice A ss.length c) (.slice A2 ps.length c2) (.int .i64 l) (.bool false)
      refine bodyPost_ret (dk_out rfl rfl rfl HZ2) rfl ?_
      have hb := below_set4 (HB1.out.setCell (p := ⟨w.heap.size, 2, none⟩) (Nat.le_refl _) (.int .i64 l)) (show w.heap.size ≤ w.heap.size + 1 by omega) (.slice A ss.length c) (.slice A2 ps.length c2) (.int .i64 l) (.bool false)
      exact ⟨_, rfl, isD_mk (H1.out.upb hb) (H2.out.upb hb), hb, sec_same⟩
  · have hkb : (k0 != 0) = true := by simpa using hk
    have hkc : (k0 == 0) = false := by simpa using hk
    have hn : ¬ Dv.Run ⟨ss, ps, left, st⟩ := fun h => hk (HRI.out.1 h).1
    obtain rfl : e0 = 40 := by rw [← HE.out]; exact if_neg hn
    obtain rfl : r0 = d0 := by rw [← HR.out]; exact if_neg hn
    clear hn hk
    go_wp2_with (fail)
    refine bodyPost_ret (dk_out rfl rfl rfl (HZ1.out.set4 (.slice none 0 0) (.slice none 0 0) (.int .i64 0) (.bool false))) rfl ?_
    exact ⟨_, rfl, IsD.zero, below_set4 HB1.out (by omega) _ _ _ _, sec_nil⟩
end Go.Proofs.Ytimpnpdhhhbmgaa

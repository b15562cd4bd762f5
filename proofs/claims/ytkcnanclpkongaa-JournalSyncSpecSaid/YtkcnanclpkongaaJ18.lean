/- Walks of the reference's Write and Sync of a disk: the place of the sectors as well. -/
import Derived.Test.YtkcnanclpkongaaWE
namespace Go.Proofs.Ytkcnanclpkongaa
open Go.RowKit
set_option linter.unusedVariables false
set_option linter.unusedSimpArgs false
set_option maxRecDepth 20000

set_option maxHeartbeats 8000000 in
set_option maxRecDepth 100000 in
theorem refWriteS_any {d : Dk} {v u : Value} {b : By} {w : World} (hv : IsD w v d) (at0 : Int) (hu : IsBytes w u b) :
    Calls Try.prog 46 #[v, .int .i64 at0, u] w fun e w' => ∃ x, e = .returned (.tuple #[x, .int .i64 (Dv.wrE d at0 b)]) ∧ IsD w' x (Dv.wr d at0 b) ∧ Below w.heap.size w w' ∧ Sec w.heap.size v x := by
  have HV := Lib.hid hv
  have HU := Lib.hid hu
  obtain ⟨A, c, A2, c2, rfl, h1, h2⟩ := hv.open_
  obtain ⟨A6, c6, rfl, _⟩ := id hu
  obtain ⟨ss, ps, left, st⟩ := d
  simp only at HV h1 h2 ⊢
  have H1 := Lib.hid h1
  have H2 := Lib.hid h2
  clear hv h1 h2 hu
  obtain ⟨e0, he⟩ : ∃ e, Dv.wrE ⟨ss, ps, left, st⟩ at0 b = e := ⟨_, rfl⟩
  obtain ⟨r0, hr⟩ : ∃ e, Dv.wr ⟨ss, ps, left, st⟩ at0 b = e := ⟨_, rfl⟩
  rw [he, hr]
  have HE := Lib.hid he
  have HR := Lib.hid hr
  clear he hr
  have HBAD := Lib.hid (show ¬ (Dv.Run ⟨ss, ps, left, st⟩ ∧ Dv.Has ⟨ss, ps, left, st⟩ at0) → e0 = 40 ∧ r0 = d0 from fun h => ⟨by rw [← HE.out]; exact if_neg h, by rw [← HR.out]; exact if_neg h⟩)
  have HX := Lib.hid ((Cells.new w 25 [Value.slice A ss.length c, Value.slice A2 ps.length c2, Value.int IntKind.i64 left, Value.bool st]).upb (al1 _ (.cells #[.slice none 0 0, .slice none 0 0, .int .i64 0, .bool false] 25)))
  have HZ := Lib.hid (Cells.new (w.alloc (.cells [Value.slice A ss.length c, Value.slice A2 ps.length c2, Value.int IntKind.i64 left, Value.bool st].toArray 25)) 25 [.slice none 0 0, .slice none 0 0, .int .i64 0, .bool false])
  have HB := Lib.hid ((al1 w (.cells [Value.slice A ss.length c, Value.slice A2 ps.length c2, Value.int IntKind.i64 left, Value.bool st].toArray 25)).up (al1 _ (.cells #[.slice none 0 0, .slice none 0 0, .int .i64 0, .bool false] 25)))
  obtain ⟨k0, hk0⟩ : ∃ k0, Dv.chk ⟨ss, ps, left, st⟩ = k0 := ⟨_, rfl⟩
  have HK0 := Lib.hid hk0
  have HRI := Lib.hid (show Dv.Run ⟨ss, ps, left, st⟩ ↔ k0 = 0 ∧ st = false by rw [← hk0]; exact run_iff)
  clear hk0
  go_enter Try.func46, Try.ntmps46
  go_wp2_with (fail)
  refine (refCheck_is (HV.out.upb HB.out) HK0.out).mono ?_
  rintro e w1 ⟨rfl, b1⟩
  have HX1 := Lib.hid (HX.out.upb b1)
  have HZ1 := Lib.hid (HZ.out.upb b1)
  have HB1 := Lib.hid (HB.out.up b1)
  clear b1 HX HZ HB
  simp only [World.size_alloc] at HZ1
  have hzw := HZ1.out.lt
  have z0 := HZ1.out.cell (k := 0) rfl
  have z1 := HZ1.out.cell (k := 1) rfl
  have z2 := HZ1.out.cell (k := 2) rfl
  have z3 := HZ1.out.cell (k := 3) rfl
  have f0 := HZ1.out.frozen 0
  have f1 := HZ1.out.frozen 1
  have f2 := HZ1.out.frozen 2
  have f3 := HZ1.out.frozen 3
  have x0 := HX1.out.cell (k := 0) rfl
  have x1 := HX1.out.cell (k := 1) rfl
  have x2 := HX1.out.cell (k := 2) rfl
  have x3 := HX1.out.cell (k := 3) rfl
  have g1 := HX1.out.frozen 1
  by_cases hk : k0 = 0
  case neg =>
    have hkb : (k0 != 0) = true := by simpa using hk
    have hkc : (k0 == 0) = false := by simpa using hk
    obtain ⟨rfl, rfl⟩ := HBAD.out (fun h => hk (HRI.out.1 h.1).1)
    clear hk
    go_wp2_with (fail)
    refine bodyPost_ret (dk_out rfl rfl rfl (HZ1.out.set4 (.slice none 0 0) (.slice none 0 0) (.int .i64 0) (.bool false))) rfl ?_
    exact ⟨_, rfl, IsD.zero, below_set4 HB1.out (by omega) _ _ _ _, sec_nil⟩
  case pos =>
  subst hk
  cases st with
  | true =>
    obtain ⟨rfl, rfl⟩ := HBAD.out (fun h => by have := h.1.2; cases this)
    go_wp2_with (fail)
    refine bodyPost_ret (dk_out rfl rfl rfl (HZ1.out.set4 (.slice none 0 0) (.slice none 0 0) (.int .i64 0) (.bool false))) rfl ?_
    exact ⟨_, rfl, IsD.zero, below_set4 HB1.out (by omega) _ _ _ _, sec_nil⟩
  | false =>
  have HRUN := Lib.hid (HRI.out.2 ⟨rfl, rfl⟩)
  by_cases t1 : at0 < 0
  case pos =>
    have dt1 : decide (at0 < 0) = true := decide_eq_true t1
    obtain ⟨rfl, rfl⟩ := HBAD.out (fun h => by have := h.2.1; omega)
    clear t1
    go_wp2_with (fail)
    refine bodyPost_ret (dk_out rfl rfl rfl (HZ1.out.set4 (.slice none 0 0) (.slice none 0 0) (.int .i64 0) (.bool false))) rfl ?_
    exact ⟨_, rfl, IsD.zero, below_set4 HB1.out (by omega) _ _ _ _, sec_nil⟩
  case neg =>
  have dt1 : decide (at0 < 0) = false := decide_eq_false t1
  by_cases t2 : (ss.length : Int) ≤ at0
  case pos =>
    have dt2 : decide ((ss.length : Int) ≤ at0) = true := decide_eq_true t2
    obtain ⟨rfl, rfl⟩ := HBAD.out (fun h => by have := h.2.2; simp only at this; omega)
    clear t1 t2
    go_wp2_with (fail)
    refine bodyPost_ret (dk_out rfl rfl rfl (HZ1.out.set4 (.slice none 0 0) (.slice none 0 0) (.int .i64 0) (.bool false))) rfl ?_
    exact ⟨_, rfl, IsD.zero, below_set4 HB1.out (by omega) _ _ _ _, sec_nil⟩
  case neg =>
  have dt2 : decide ((ss.length : Int) ≤ at0) = false := decide_eq_false t2
  have HHAS := Lib.hid (show Dv.Has ⟨ss, ps, left, false⟩ at0 by unfold Dv.Has; simp only; omega)
  clear t1 t2
  by_cases t1 : b.length ≤ 128
  case neg =>
    have dt3 : decide ((128 : Int) < (b.length : Int)) = true := decide_eq_true (by omega)
    obtain rfl : e0 = 1 := by rw [← HE.out]; unfold Dv.wrE; rw [if_pos ⟨HRUN.out, HHAS.out⟩, if_neg t1]
    obtain rfl : r0 = d0 := by rw [← HR.out]; unfold Dv.wr; rw [if_pos ⟨HRUN.out, HHAS.out⟩, if_neg t1]
    clear t1
    go_wp2_with (fail)
    refine bodyPost_ret (dk_out rfl rfl rfl (HZ1.out.set4 (.slice none 0 0) (.slice none 0 0) (.int .i64 0) (.bool false))) rfl ?_
    exact ⟨_, rfl, IsD.zero, below_set4 HB1.out (by omega) _ _ _ _, sec_nil⟩
  case pos =>
  have dt3 : decide ((128 : Int) < (b.length : Int)) = false := decide_eq_false (by omega)
  by_cases t2 : ps.length = 4096
  case pos =>
    have dt4 : ((ps.length : Int) == 4096) = true := by rw [t2]; rfl
    obtain rfl : e0 = 2 := by rw [← HE.out]; unfold Dv.wrE; rw [if_pos ⟨HRUN.out, HHAS.out⟩, if_pos t1, if_pos t2]
    obtain rfl : r0 = d0 := by rw [← HR.out]; unfold Dv.wr; rw [if_pos ⟨HRUN.out, HHAS.out⟩, if_pos t1, if_pos t2]
    clear t1 t2
    go_wp2_with (fail)
    refine bodyPost_ret (dk_out rfl rfl rfl (HZ1.out.set4 (.slice none 0 0) (.slice none 0 0) (.int .i64 0) (.bool false))) rfl ?_
    exact ⟨_, rfl, IsD.zero, below_set4 HB1.out (by omega) _ _ _ _, sec_nil⟩
  case neg =>
  have dt4 : ((ps.length : Int) == 4096) = false := beq_false_of_ne (by omega)
  obtain rfl : e0 = 0 := by rw [← HE.out]; unfold Dv.wrE; rw [if_pos ⟨HRUN.out, HHAS.out⟩, if_pos t1, if_neg t2]
  obtain rfl : r0 = ⟨ss, ps ++ [⟨at0, Dv.pad b⟩], left, false⟩ := by rw [← HR.out]; unfold Dv.wr; rw [if_pos ⟨HRUN.out, HHAS.out⟩, if_pos t1, if_neg t2]
  have HT1 := Lib.hid t1
  have hp4 := HRUN.out.1.p2
  simp only at hp4
  have HP4 := Lib.hid hp4
  clear t1 t2 hp4
  have HX2 := Lib.hid (HX1.out)
  go_wp2_with (at_builtin; go_must (refine wpList_app rfl (.tmp 37) (.tmp 38) 35 _ _ rfl rfl rfl (appB_run _ (ownB_made w1) (HU.out.upb (HB1.out.up (al1 w1 _))) (by have := HT1.out; simp; omega) (by simp)) ?_); rintro v2 w2 ⟨ho2, hg2, _⟩; have HO2 := Lib.hid ho2; have HB2 := Lib.hid (app_below (al1 w1 _) hg2 ownBlk); clear ho2 hg2)
  clear z0 z1 z2 z3 f0 f1 f2 f3 x0 x1 x2 x3 g1 hzw dt1 dt2 dt3 dt4
  have HO3 := Lib.hid (show OwnBytes w2 w1.heap.size v2 b by have := HO2.out; rwa [List.nil_append] at this)
  go_loopw [8] (fun dv wr => ∃ (k : Nat) (A : Option Addr) (c : Nat), dv = .slice A (b.length + k) c ∧ b.length + k ≤ 128 ∧ Hid (OwnBytes wr w1.heap.size dv (b ++ List.replicate k 0)) ∧ Hid (Below w1.heap.size w1 wr)) (fun dv _ => mzL dv)
  case atStart =>
    obtain ⟨A', c', e⟩ := HO3.out.shape
    exact ⟨0, A', c', e, HT1.out, by simpa using HO3, HB2⟩
  case round =>
    obtain ⟨k, A7, c7, rfl, hk, HO, HBw⟩ := hrel
    by_cases hlt : b.length + k < 128
    · have hd1 : decide (((b.length + k : Nat) : Int) < 128) = true := decide_eq_true (by omega)
      have HRP := Lib.hid (show b ++ List.replicate (k + 1) 0 = (b ++ List.replicate k 0) ++ [(0 : UInt8)] by rw [List.append_assoc, List.replicate_succ'])
      go_wp2_with (at_builtin; go_must (refine wpList_app rfl (.tmp 43) (.tmp 44) 35 _ _ rfl rfl rfl (appB_run (base := w1.heap.size) _ (HO.out.below (al1 wr (.cells #[.int .u8 0] 5))) (bytes_cells (bs := [0]) (Cells.new wr 5 [.int .u8 0]) rfl (Nat.le_refl _)) (by simp; omega) (by have := HBw.out.size; simp; omega)) ?_); rintro v3 w3 ⟨ho3, hg3, _⟩; have HO3' := Lib.hid ho3; have HB3 := Lib.hid ((HBw.out.up (al1 wr (.cells #[.int .u8 0] 5))).grown hg3 (HBw.out.up (al1 wr (.cells #[.int .u8 0] 5))).size (HO.out.lt')); clear ho3 hg3; obtain ⟨A8, c8, e8⟩ := HO3'.out.shape; simp only [List.length_append, List.length_replicate, List.length_cons, List.length_nil, Nat.zero_add] at e8; subst e8)
      go_roundw
      case rel => exact ⟨k + 1, A8, c8, by rw [Nat.add_assoc], by omega, by rw [HRP.out]; exact HO3', HB3⟩
      case measure => show 128 - _ < 128 - _; omega
    · have hd1 : decide (((b.length + k : Nat) : Int) < 128) = false := decide_eq_false (by omega)
      have hk2 : b.length + k = 128 := by omega
      have HDV := Lib.hid (show IsBytes wr (.slice A7 (b.length + k) c7) (Dv.pad b) by rw [← pad_at hk2]; exact HO.out.bytes)
      rw [hk2] at HDV ⊢
      have hd2 : decide ((128 : Int) < 128) = false := rfl
      clear HO hk
      have HXr := Lib.hid (HX1.out.upb HBw.out)
      have HZr := Lib.hid (HZ1.out.upb HBw.out)
      have HBr := Lib.hid (HB1.out.up HBw.out)
      have xx1 := HXr.out.cell (k := 1) rfl
      have hzr := HXr.out.lt
      go_wp2_with (first | (at_builtin; refine wpList_app rfl (.tmp 46) (.tmp 48) 23 _ _ rfl rfl rfl (appW_is _ (al1 wr _) (H2.out.upb HBr.out) (ownW_made wr) (by have := HP4.out; simp; omega)) ?_; rintro v4 w4 ⟨ho4, hg4, _⟩; have HO4 := Lib.hid (show OwnWs w4 wr.heap.size v4 ps by rwa [List.nil_append] at ho4); have HB4 := Lib.hid (app_below (al1 wr _) hg4 ownBlk); clear ho4 hg4) | (at_builtin; refine wpList_app rfl (.tmp 49) (.tmp 53) 23 _ _ rfl rfl rfl (push2W_run _ HB4.out HO4.out (p := ⟨at0, Dv.pad b⟩) HDV.out HP4.out) ?_; rintro v6 w6 ⟨hw6, hb6, ⟨g6, cap6, rfl⟩, _⟩; have HW6 := Lib.hid hw6; have HX6 := Lib.hid (HXr.out.upb hb6); have HZ6 := Lib.hid (HZr.out.upb hb6); have HB6 := Lib.hid (HBr.out.up hb6); clear hw6 hb6; have z0 := HZ6.out.cell (k := 0) rfl; have z1 := HZ6.out.cell (k := 1) rfl; have z2 := HZ6.out.cell (k := 2) rfl; have z3 := HZ6.out.cell (k := 3) rfl; have f0 := HZ6.out.frozen 0; have f1 := HZ6.out.frozen 1; have f2 := HZ6.out.frozen 2; have f3 := HZ6.out.frozen 3; have x0 := HX6.out.cell (k := 0) rfl; have x1 := HX6.out.cell (k := 1) rfl; have x2 := HX6.out.cell (k := 2) rfl; have x3 := HX6.out.cell (k := 3) rfl; have g1 := HX6.out.frozen 1; have hzw := HZ6.out.lt; have hxw := HX6.out.lt))
      have HZ7 := (HZ6.out.other (show w.heap.size + 1 ≠ w.heap.size by omega) 1 (.slice (some ⟨g6, 0, none⟩) (ps.length + 1) cap6)).set4 (.slice A ss.length c) (.slice (some ⟨g6, 0, none⟩) (ps.length + 1) cap6) (.int .i64 left) (.bool false)
      refine bodyPost_ret (dk_out rfl rfl rfl HZ7) rfl ?_
      have hb := below_set4 (HB6.out.setCell (p := ⟨w.heap.size, 1, none⟩) (Nat.le_refl _) (.slice (some ⟨g6, 0, none⟩) (ps.length + 1) cap6)) (show w.heap.size ≤ w.heap.size + 1 by omega) (.slice A ss.length c) (.slice (some ⟨g6, 0, none⟩) (ps.length + 1) cap6) (.int .i64 left) (.bool false)
      refine ⟨_, rfl, isD_mk (H1.out.upb hb) ?_, hb, sec_same⟩
      exact (HW6.out.box HX6.out (grown_set _ _ 1 _)).box (HZ6.out.other (show w.heap.size + 1 ≠ w.heap.size by omega) 1 (.slice (some ⟨g6, 0, none⟩) (ps.length + 1) cap6)) (grown_set4 _ _ _ _ _ _)

set_option maxHeartbeats 8000000 in
set_option maxRecDepth 100000 in
theorem refSyncS_any {d : Dk} {v : Value} {w : World} (hv : IsD w v d) :
    Calls Try.prog 48 #[v] w fun e w' => ∃ x, e = .returned (.tuple #[x, .int .i64 (Dv.syE d)]) ∧ IsD w' x (Dv.sy d) ∧ Below w.heap.size w w' ∧ Sec w.heap.size v x := by
  have HV := Lib.hid hv
  obtain ⟨A, c, A2, c2, rfl, h1, h2⟩ := hv.open_
  obtain ⟨ss, ps, left, st⟩ := d
  simp only at HV h1 h2 ⊢
  have H1 := Lib.hid h1
  have H2 := Lib.hid h2
  clear hv h1 h2
  obtain ⟨e0, he⟩ : ∃ e, Dv.syE ⟨ss, ps, left, st⟩ = e := ⟨_, rfl⟩
  obtain ⟨r0, hr⟩ : ∃ e, Dv.sy ⟨ss, ps, left, st⟩ = e := ⟨_, rfl⟩
  rw [he, hr]
  have HE := Lib.hid he
  have HR := Lib.hid hr
  clear he hr
  have HX := Lib.hid ((Cells.new w 25 [Value.slice A ss.length c, Value.slice A2 ps.length c2, Value.int IntKind.i64 left, Value.bool st]).upb (al1 _ (.cells #[.slice none 0 0, .slice none 0 0, .int .i64 0, .bool false] 25)))
  have HZ := Lib.hid (Cells.new (w.alloc (.cells [Value.slice A ss.length c, Value.slice A2 ps.length c2, Value.int IntKind.i64 left, Value.bool st].toArray 25)) 25 [.slice none 0 0, .slice none 0 0, .int .i64 0, .bool false])
  have HB := Lib.hid ((al1 w (.cells [Value.slice A ss.length c, Value.slice A2 ps.length c2, Value.int IntKind.i64 left, Value.bool st].toArray 25)).up (al1 _ (.cells #[.slice none 0 0, .slice none 0 0, .int .i64 0, .bool false] 25)))
  obtain ⟨k0, hk0⟩ : ∃ k0, Dv.chk ⟨ss, ps, left, st⟩ = k0 := ⟨_, rfl⟩
  have HK0 := Lib.hid hk0
  have HRI := Lib.hid (show Dv.Run ⟨ss, ps, left, st⟩ ↔ k0 = 0 ∧ st = false by rw [← hk0]; exact run_iff)
  clear hk0
  go_enter Try.func48, Try.ntmps48
  go_wp2_with (fail)
  refine (refCheck_is (HV.out.upb HB.out) HK0.out).mono ?_
  rintro e w1 ⟨rfl, b1⟩
  have HX1 := Lib.hid (HX.out.upb b1)
  have HZ1 := Lib.hid (HZ.out.upb b1)
  have HB1 := Lib.hid (HB.out.up b1)
  clear b1 HX HZ HB
  simp only [World.size_alloc] at HZ1
  have hzw := HZ1.out.lt
  have z0 := HZ1.out.cell (k := 0) rfl
  have z1 := HZ1.out.cell (k := 1) rfl
  have z2 := HZ1.out.cell (k := 2) rfl
  have z3 := HZ1.out.cell (k := 3) rfl
  have f0 := HZ1.out.frozen 0
  have f1 := HZ1.out.frozen 1
  have f2 := HZ1.out.frozen 2
  have f3 := HZ1.out.frozen 3
  have hxw := HX1.out.lt
  have x0 := HX1.out.cell (k := 0) rfl
  have x1 := HX1.out.cell (k := 1) rfl
  have x2 := HX1.out.cell (k := 2) rfl
  have x3 := HX1.out.cell (k := 3) rfl
  by_cases hk : k0 = 0
  case neg =>
    have hkb : (k0 != 0) = true := by simpa using hk
    have hkc : (k0 == 0) = false := by simpa using hk
    have hn : ¬ Dv.Run ⟨ss, ps, left, st⟩ := fun h => hk (HRI.out.1 h).1
    obtain rfl : e0 = 40 := by rw [← HE.out]; exact if_neg hn
    obtain rfl : r0 = d0 := by rw [← HR.out]; exact if_neg hn
    clear hk hn
    go_wp2_with (fail)
    refine bodyPost_ret (dk_out rfl rfl rfl (HZ1.out.set4 (.slice none 0 0) (.slice none 0 0) (.int .i64 0) (.bool false))) rfl ?_
    exact ⟨_, rfl, IsD.zero, below_set4 HB1.out (by omega) _ _ _ _, sec_nil⟩
  case pos =>
  subst hk
  cases st with
  | true =>
    have hn : ¬ Dv.Run ⟨ss, ps, left, true⟩ := fun h => by have := h.2; cases this
    obtain rfl : e0 = 40 := by rw [← HE.out]; exact if_neg hn
    obtain rfl : r0 = d0 := by rw [← HR.out]; exact if_neg hn
    clear hn
    go_wp2_with (fail)
    refine bodyPost_ret (dk_out rfl rfl rfl (HZ1.out.set4 (.slice none 0 0) (.slice none 0 0) (.int .i64 0) (.bool false))) rfl ?_
    exact ⟨_, rfl, IsD.zero, below_set4 HB1.out (by omega) _ _ _ _, sec_nil⟩
  | false =>
  have HRUN := Lib.hid (HRI.out.2 ⟨rfl, rfl⟩)
  have HOK := Lib.hid (show ∀ k (h : k < ps.length), 0 ≤ ps[k].at_ ∧ ps[k].at_ < (ss.length : Int) ∧ ps[k].data.length = 128 from fun k h => HRUN.out.1.w h)
  have HLN := Lib.hid (show 1 ≤ ss.length ∧ ss.length ≤ 4096 ∧ ps.length ≤ 4096 from ⟨HRUN.out.1.n1, HRUN.out.1.n2, HRUN.out.1.p2⟩)
  have HS128 := Lib.hid (show ∀ (j : Nat), ∀ q ∈ Dv.put ss (ps.take j), q.length = 128 from fun j => put_128 (fun q hq => Dv.any_ss.1 HRUN.out.1.ss q hq) (fun q hq => (Dv.any_ps.1 HRUN.out.1.ps q (List.mem_of_mem_take hq)).2.2))
  by_cases hs : 0 ≤ left ∧ left < (ps.length : Int)
  · have dt1 : decide (0 ≤ left) = true := decide_eq_true hs.1
    have dt2 : decide (left < (ps.length : Int)) = true := decide_eq_true hs.2
    obtain ⟨k, rfl⟩ : ∃ k : Nat, left = k := ⟨left.toNat, by omega⟩
    have hk : k < ps.length := by omega
    obtain rfl : e0 = 40 := by rw [← HE.out]; unfold Dv.syE; rw [if_pos HRUN.out, if_pos (show Dv.Stops ⟨ss, ps, (k : Int), false⟩ from hs)]
    have HR2 := Lib.hid (show r0 = ⟨Dv.halfS ⟨ss, ps, k, false⟩ k, [], 0, true⟩ by rw [← HR.out]; unfold Dv.sy; rw [if_pos HRUN.out, if_pos (show Dv.Stops ⟨ss, ps, (k : Int), false⟩ from hs)]; rfl)
    have hlt64 : ps.length ≤ 4096 := HLN.out.2.2
    clear hs
    go_wp2_with (fail)
    refine copy_region ⟨x0, x2⟩ (H1.out.upb HB1.out) HLN.out.1 HLN.out.2.1 ?_
    rintro v32 g cap B6 X3 hc3
    clear z0 z1 z2 z3 f0 f1 f2 f3 x0 x1 x2 x3 hzw hxw
    have HC3 := Lib.hid hc3
    clear hc3
    go_wp2_with (fail)
    go_loopw [7] (fun i wr => ∃ j : Nat, i = .int .i64 j ∧ j ≤ k ∧ Hid (Cpy w1 wr B6 g cap ss.length (Dv.put ss (ps.take j)) (k : Int) false)) (fun i _ => k - (intOf i).toNat)
    case atStart => exact ⟨0, rfl, Nat.zero_le _, HC3⟩
    case round =>
      obtain ⟨j, rfl, hj, HC⟩ := hrel
      have HXr := Lib.hid (HX1.out.upb HC.out.bel)
      have x1 := HXr.out.cell (k := 1) rfl
      have hxr := HXr.out.lt
      have c60 := HC.out.b.cell (k := 0) rfl
      have c6l := HC.out.b.lt
      by_cases hlt2 : j < k
      · have hjl : j < ps.length := by omega
        have hjd : decide ((j : Int) < (k : Int)) = true := decide_eq_true (by omega)
        obtain ⟨b, off, A', c', hA, hbb, hc1, hc2, hc3⟩ := ws_at H2.out hjl
        subst hA
        have h1 : wr.cell? ⟨b, off + j * 2, none⟩ = some (.int .i64 ps[j].at_) := by rw [(bcell (HB1.out.up HC.out.bel)).1 b _ hbb, hc1]
        have h2 : wr.cell? ⟨b, off + j * 2 + 1, none⟩ = some (.slice A' ps[j].data.length c') := by rw [(bcell (HB1.out.up HC.out.bel)).1 b _ hbb, hc2]
        have hbw : b < wr.heap.size := Nat.lt_of_lt_of_le hbb (HB1.out.up HC.out.bel).size
        have H3 := Lib.hid (hc3.upb HB1.out)
        have HS := Lib.hid (Dv.put_succ hjl ss)
        have hr := HOK.out j hjl
        clear hc1 hc2 hc3
        generalize ps[j] = p at *
        obtain ⟨at0, data⟩ := p
        simp only at h1 h2 H3 HS hr
        obtain ⟨m, rfl⟩ : ∃ m : Nat, at0 = m := ⟨at0.toNat, by omega⟩
        have hmn : m < ss.length := by omega
        have hpl : m < (Dv.put ss (ps.take j)).length := by rw [Dv.put_len]; exact hmn
        obtain ⟨v5, hcc⟩ : ∃ v5, wr.cell? ⟨g, m, none⟩ = some v5 := by obtain ⟨A5, c5, hcc, _⟩ := HC.out.o.cell hpl; exact ⟨_, hcc⟩
        have hff := HC.out.o.frozen m
        have HXn := Lib.hid (HC.out.drew.row m (OffB.of H3.out (show Below w1.heap.size w1 wr.drew from HC.out.drew.bel) (by intro g' h; injection h with h; have := HC.out.glt; omega)))
        clear hr hpl
        go_wp2_with (fail)
        go_still_tail 15, (by kernel_rfl)
        go_wp2_with (fail)
        go_roundw
        case rel => exact ⟨j + 1, by go_num, by omega, by rw [HS.out]; exact HXn⟩
        case measure => first | omega | (simp [intOf]; done) | (simp [intOf]; omega)
      · have hjk : j = k := by omega
        subst hjk
        have hd9 : decide ((j : Int) < (j : Int)) = false := decide_eq_false (by omega)
        obtain ⟨b, off, A', c', hA, hbb, hc1, hc2, hc3⟩ := ws_at H2.out hk
        subst hA
        have h1 : wr.cell? ⟨b, off + j * 2, none⟩ = some (.int .i64 ps[j].at_) := by rw [(bcell (HB1.out.up HC.out.bel)).1 b _ hbb, hc1]
        have h2 : wr.cell? ⟨b, off + j * 2 + 1, none⟩ = some (.slice A' ps[j].data.length c') := by rw [(bcell (HB1.out.up HC.out.bel)).1 b _ hbb, hc2]
        have hbw : b < wr.heap.size := Nat.lt_of_lt_of_le hbb (HB1.out.up HC.out.bel).size
        have H3 := Lib.hid hc3
        have hr3 := HOK.out j hk
        have HPS := Lib.hid (show ps[j]? = some ps[j] from List.getElem?_eq_getElem hk)
        obtain ⟨SS, hSS⟩ : ∃ SS, Dv.put ss (ps.take j) = SS := ⟨_, rfl⟩
        have HSL := Lib.hid (show SS.length = ss.length by rw [← hSS, Dv.put_len])
        have HSS := Lib.hid hSS
        rw [hSS] at HC
        clear hc1 hc2 hc3 hSS
        generalize ps[j] = p at *
        obtain ⟨at0, data⟩ := p
        simp only at h1 h2 H3 HPS hr3
        obtain ⟨m, rfl⟩ : ∃ m : Nat, at0 = m := ⟨at0.toNat, by omega⟩
        have hmn : m < ss.length := by omega
        have hdl : data.length = 128 := hr3.2.2
        have hml : m < SS.length := by rw [HSL.out]; exact hmn
        obtain ⟨OB, hOB⟩ : ∃ OB, SS[m]? = some OB := ⟨_, List.getElem?_eq_getElem hml⟩
        have hs128 : OB.length = 128 := HS128.out j _ (by rw [HSS.out]; exact List.mem_of_getElem? hOB)
        have HOB := Lib.hid hOB
        obtain ⟨A5, c5, hcc, hcb⟩ := HC.out.o.cellq hOB
        have hc5 : 128 ≤ c5 := by obtain ⟨_, c9, e9, h9, _⟩ := id hcb; injection e9 with _ _ e9; omega
        have hcp : 128 ≤ c' := by obtain ⟨_, c9, e9, h9, _⟩ := id H3.out; injection e9 with _ _ e9; omega
        obtain ⟨b5, off5, rfl⟩ := addr_of hcb (by omega)
        rw [hs128] at hcc hcb
        rw [hdl] at h2 H3
        have HCB := Lib.hid hcb
        have HL128 := Lib.hid (And.intro hs128 hdl)
        have hgw : g < wr.heap.size := cell_lt hcc
        have hff := HC.out.o.frozen m
        have HK4 := Lib.hid (Cells.new wr 76 [.int .i64 m, .slice A' 128 c'])
        have HAL := Lib.hid (al1 wr (.cells #[.int .i64 m, .slice A' 128 c'] 76))
        clear hcb hr3 hOB hs128 hdl
        go_wp2_with (fail)
        refine tear_region (g := g) (m := m) (n := ss.length) (cap := cap) (data := data) (OB := OB) (B6 := B6) (B8 := wr.heap.size) ⟨?_, ?_, ?_, ?_⟩ ?_ hmn ((H3.out.upb (HB1.out.up HC.out.bel)).upb HAL.out) (HCB.out.upb HAL.out) HL128.out.2 HL128.out.1 hcp hc5 ?_
        · exact (HC.out.b.upb HAL.out).cell rfl
        · exact HK4.out.cell rfl
        · exact HK4.out.cell rfl
        · exact ((bcell HAL.out).1 g m hgw).trans hcc
        · exact ((bcell HAL.out).2 g m hgw).trans hff
        rintro v1 v2 X4 ho4 hb4
        obtain ⟨A4, c4, e4⟩ := ho4.shape
        rw [show (data.take 64 ++ OB.drop 64).length = 128 by rw [List.length_append, List.length_take, List.length_drop, HL128.out.1, HL128.out.2]; rfl] at e4
        subst e4
        have HC4 := Lib.hid (((HC.out.upb HAL.out).upb hb4).row m (ho4.off (g := g) (by simp; omega)))
        clear ho4 hb4 h1 h2 hcc hff c60 x1
        have HZ4 := Lib.hid (HZ1.out.upb HC4.out.bel)
        have HB4 := Lib.hid (HB1.out.up HC4.out.bel)
        generalize X4.setCell ⟨g, m, none⟩ (.slice A4 128 c4) = X5 at *
        have c60 := HC4.out.b.cell (k := 0) rfl
        have c61 := HC4.out.b.cell (k := 1) rfl
        have c62 := HC4.out.b.cell (k := 2) rfl
        have c63 := HC4.out.b.cell (k := 3) rfl
        have d62 := HC4.out.b.frozen 2
        have d63 := HC4.out.b.frozen 3
        have hlo := HC4.out.lo
        have hB1 := HZ1.out.lt
        have n6 : w.heap.size + 1 ≠ B6 := by omega
        have n6' : B6 ≠ w.heap.size + 1 := by omega
        have hzw := HZ4.out.lt
        have z0 := HZ4.out.cell (k := 0) rfl
        have z1 := HZ4.out.cell (k := 1) rfl
        have z2 := HZ4.out.cell (k := 2) rfl
        have z3 := HZ4.out.cell (k := 3) rfl
        have f0 := HZ4.out.frozen 0
        have f1 := HZ4.out.frozen 1
        have f2 := HZ4.out.frozen 2
        have f3 := HZ4.out.frozen 3
        go_wp2_with (fail)
        have HC5 := (HC4.out.fld2 0).fld3 true
        have HZ5 := HZ1.out.upb HC5.bel
        have HB5 := HB1.out.up HC5.bel
        have HO6 := HC5.o.box HZ5 (grown_set4 _ (w.heap.size + 1) (.slice (some ⟨g, 0, none⟩) ss.length cap) (.slice none 0 0) (.int .i64 0) (.bool true))
        have HZ6 := HZ5.set4 (.slice (some ⟨g, 0, none⟩) ss.length cap) (.slice none 0 0) (.int .i64 0) (.bool true)
        have hb := below_set4 HB5 (show w.heap.size ≤ w.heap.size + 1 by omega) (.slice (some ⟨g, 0, none⟩) ss.length cap) (.slice none 0 0) (.int .i64 0) (.bool true)
        refine bodyPost_ret (dk_out rfl rfl rfl HZ6) rfl ?_
        refine ⟨_, rfl, ?_, hb, sec_ge (Nat.le_trans HB1.out.size (HC5.o.lt' g rfl))⟩
        have hfin : r0 = ⟨SS.set m (data.take 64 ++ OB.drop 64), [], 0, true⟩ := by
          rw [HR2.out]
          have h9 := HOB.out
          rw [← HSS.out] at h9 ⊢
          simp only [Dv.halfS, HPS.out, Int.toNat_natCast, List.getD_eq_getElem?_getD, h9, Option.getD_some]
          rfl
        rw [hfin]
        exact isD_mk HO6.is IsWs.nil
  · have hns : ¬ Dv.Stops ⟨ss, ps, left, false⟩ := hs
    obtain rfl : e0 = 0 := by rw [← HE.out]; unfold Dv.syE; rw [if_pos HRUN.out, if_neg hns]
    have HR1 := Lib.hid (show r0 = ⟨Dv.put ss ps, [], if 0 ≤ left then left - ps.length else left, false⟩ by rw [← HR.out]; unfold Dv.sy; rw [if_pos HRUN.out, if_neg hns])
    have hl2 := HRUN.out.1.l2
    have hlt64 : ps.length ≤ 4096 := HLN.out.2.2
    simp only at hl2
    clear hns
    by_cases h0 : 0 ≤ left
    · have dt1 : decide (0 ≤ left) = true := decide_eq_true h0
      have dt2 : decide (left < (ps.length : Int)) = false := decide_eq_false (by omega)
      have HR2 := Lib.hid (show r0 = ⟨Dv.put ss ps, [], left - ps.length, false⟩ by rw [HR1.out, if_pos h0])
      have hw64 : IntKind.i64.wrap (left - (ps.length : Int)) = left - (ps.length : Int) := by rw [IntKind.wrap_i64]; omega
      have hw65 : (0 : Int) ≤ left - (ps.length : Int) := by omega
      have hw66 : left - (ps.length : Int) ≤ 65536 := by omega
      clear hs
      go_wp2_with (fail)
      refine copy_region ⟨x0, x2⟩ (H1.out.upb HB1.out) HLN.out.1 HLN.out.2.1 ?_
      rintro v32 g cap B6 X3 hc3
      clear z0 z1 z2 z3 f0 f1 f2 f3 x0 x1 x2 x3 hzw hxw
      have HC3 := Lib.hid hc3
      clear hc3
      go_wp2_with (fail)
      go_loopw [7] (fun i wr => ∃ j : Nat, i = .int .i64 j ∧ j ≤ ps.length ∧ Hid (Cpy w1 wr B6 g cap ss.length (Dv.put ss (ps.take j)) left false)) (fun i _ => ps.length - (intOf i).toNat)
      case atStart => exact ⟨0, rfl, Nat.zero_le _, HC3⟩
      case round =>
        obtain ⟨j, rfl, hj, HC⟩ := hrel
        have HXr := Lib.hid (HX1.out.upb HC.out.bel)
        have x1 := HXr.out.cell (k := 1) rfl
        have hxr := HXr.out.lt
        have c60 := HC.out.b.cell (k := 0) rfl
        have c6l := HC.out.b.lt
        by_cases hlt2 : j < ps.length
        · have hjl : j < ps.length := by omega
          have hjd : decide ((j : Int) < (ps.length : Int)) = true := decide_eq_true (by omega)
          obtain ⟨b, off, A', c', hA, hbb, hc1, hc2, hc3⟩ := ws_at H2.out hjl
          subst hA
          have h1 : wr.cell? ⟨b, off + j * 2, none⟩ = some (.int .i64 ps[j].at_) := by rw [(bcell (HB1.out.up HC.out.bel)).1 b _ hbb, hc1]
          have h2 : wr.cell? ⟨b, off + j * 2 + 1, none⟩ = some (.slice A' ps[j].data.length c') := by rw [(bcell (HB1.out.up HC.out.bel)).1 b _ hbb, hc2]
          have hbw : b < wr.heap.size := Nat.lt_of_lt_of_le hbb (HB1.out.up HC.out.bel).size
          have H3 := Lib.hid (hc3.upb HB1.out)
          have HS := Lib.hid (Dv.put_succ hjl ss)
          have hr := HOK.out j hjl
          clear hc1 hc2 hc3
          generalize ps[j] = p at *
          obtain ⟨at0, data⟩ := p
          simp only at h1 h2 H3 HS hr
          obtain ⟨m, rfl⟩ : ∃ m : Nat, at0 = m := ⟨at0.toNat, by omega⟩
          have hmn : m < ss.length := by omega
          have hpl : m < (Dv.put ss (ps.take j)).length := by rw [Dv.put_len]; exact hmn
          obtain ⟨v5, hcc⟩ : ∃ v5, wr.cell? ⟨g, m, none⟩ = some v5 := by obtain ⟨A5, c5, hcc, _⟩ := HC.out.o.cell hpl; exact ⟨_, hcc⟩
          have hff := HC.out.o.frozen m
          have HXn := Lib.hid (HC.out.drew.row m (OffB.of H3.out (show Below w1.heap.size w1 wr.drew from HC.out.drew.bel) (by intro g' h; injection h with h; have := HC.out.glt; omega)))
          clear hr hpl
          go_wp2_with (fail)
          go_still_tail 15, (by kernel_rfl)
          go_wp2_with (fail)
          go_roundw
          case rel => exact ⟨j + 1, by go_num, by omega, by rw [HS.out]; exact HXn⟩
          case measure => first | omega | (simp [intOf]; done) | (simp [intOf]; omega)
        · have hjk : j = ps.length := by omega
          subst hjk
          have hd9 : decide ((ps.length : Int) < (ps.length : Int)) = false := decide_eq_false (by omega)
          have HC4 := Lib.hid (show Cpy w1 wr B6 g cap ss.length (Dv.put ss ps) left false by have := HC.out; rwa [List.take_length] at this)
          have HZ4 := Lib.hid (HZ1.out.upb HC4.out.bel)
          clear x1
          have c61 := HC4.out.b.cell (k := 1) rfl
          have c62 := HC4.out.b.cell (k := 2) rfl
          have c63 := HC4.out.b.cell (k := 3) rfl
          have d62 := HC4.out.b.frozen 2
          have hlo := HC4.out.lo
          have hB1 := HZ1.out.lt
          have n6 : w.heap.size + 1 ≠ B6 := by omega
          have n6' : B6 ≠ w.heap.size + 1 := by omega
          have hzw := HZ4.out.lt
          have z0 := HZ4.out.cell (k := 0) rfl
          have z1 := HZ4.out.cell (k := 1) rfl
          have z2 := HZ4.out.cell (k := 2) rfl
          have z3 := HZ4.out.cell (k := 3) rfl
          have f0 := HZ4.out.frozen 0
          have f1 := HZ4.out.frozen 1
          have f2 := HZ4.out.frozen 2
          have f3 := HZ4.out.frozen 3
          go_wp2_with (fail)
          have HC5 := HC4.out.fld2 (left - ps.length)
          have HZ5 := HZ1.out.upb HC5.bel
          have HB5 := HB1.out.up HC5.bel
          have HO6 := HC5.o.box HZ5 (grown_set4 _ (w.heap.size + 1) (.slice (some ⟨g, 0, none⟩) ss.length cap) (.slice none 0 0) (.int .i64 (left - ps.length)) (.bool false))
          have HZ6 := HZ5.set4 (.slice (some ⟨g, 0, none⟩) ss.length cap) (.slice none 0 0) (.int .i64 (left - ps.length)) (.bool false)
          have hb := below_set4 HB5 (show w.heap.size ≤ w.heap.size + 1 by omega) (.slice (some ⟨g, 0, none⟩) ss.length cap) (.slice none 0 0) (.int .i64 (left - ps.length)) (.bool false)
          refine bodyPost_ret (dk_out rfl rfl rfl HZ6) rfl ?_
          exact ⟨_, rfl, by rw [HR2.out]; exact isD_mk HO6.is IsWs.nil, hb, sec_ge (Nat.le_trans HB1.out.size (HC5.o.lt' g rfl))⟩
    · have dt1 : decide (0 ≤ left) = false := decide_eq_false h0
      have HR2 := Lib.hid (show r0 = ⟨Dv.put ss ps, [], left, false⟩ by rw [HR1.out, if_neg h0])
      clear hs
      go_wp2_with (fail)
      refine copy_region ⟨x0, x2⟩ (H1.out.upb HB1.out) HLN.out.1 HLN.out.2.1 ?_
      rintro v32 g cap B6 X3 hc3
      clear z0 z1 z2 z3 f0 f1 f2 f3 x0 x1 x2 x3 hzw hxw
      have HC3 := Lib.hid hc3
      clear hc3
      go_wp2_with (fail)
      go_loopw [7] (fun i wr => ∃ j : Nat, i = .int .i64 j ∧ j ≤ ps.length ∧ Hid (Cpy w1 wr B6 g cap ss.length (Dv.put ss (ps.take j)) left false)) (fun i _ => ps.length - (intOf i).toNat)
      case atStart => exact ⟨0, rfl, Nat.zero_le _, HC3⟩
      case round =>
        obtain ⟨j, rfl, hj, HC⟩ := hrel
        have HXr := Lib.hid (HX1.out.upb HC.out.bel)
        have x1 := HXr.out.cell (k := 1) rfl
        have hxr := HXr.out.lt
        have c60 := HC.out.b.cell (k := 0) rfl
        have c6l := HC.out.b.lt
        by_cases hlt2 : j < ps.length
        · have hjl : j < ps.length := by omega
          have hjd : decide ((j : Int) < (ps.length : Int)) = true := decide_eq_true (by omega)
          obtain ⟨b, off, A', c', hA, hbb, hc1, hc2, hc3⟩ := ws_at H2.out hjl
          subst hA
          have h1 : wr.cell? ⟨b, off + j * 2, none⟩ = some (.int .i64 ps[j].at_) := by rw [(bcell (HB1.out.up HC.out.bel)).1 b _ hbb, hc1]
          have h2 : wr.cell? ⟨b, off + j * 2 + 1, none⟩ = some (.slice A' ps[j].data.length c') := by rw [(bcell (HB1.out.up HC.out.bel)).1 b _ hbb, hc2]
          have hbw : b < wr.heap.size := Nat.lt_of_lt_of_le hbb (HB1.out.up HC.out.bel).size
          have H3 := Lib.hid (hc3.upb HB1.out)
          have HS := Lib.hid (Dv.put_succ hjl ss)
          have hr := HOK.out j hjl
          clear hc1 hc2 hc3
          generalize ps[j] = p at *
          obtain ⟨at0, data⟩ := p
          simp only at h1 h2 H3 HS hr
          obtain ⟨m, rfl⟩ : ∃ m : Nat, at0 = m := ⟨at0.toNat, by omega⟩
          have hmn : m < ss.length := by omega
          have hpl : m < (Dv.put ss (ps.take j)).length := by rw [Dv.put_len]; exact hmn
          obtain ⟨v5, hcc⟩ : ∃ v5, wr.cell? ⟨g, m, none⟩ = some v5 := by obtain ⟨A5, c5, hcc, _⟩ := HC.out.o.cell hpl; exact ⟨_, hcc⟩
          have hff := HC.out.o.frozen m
          have HXn := Lib.hid (HC.out.drew.row m (OffB.of H3.out (show Below w1.heap.size w1 wr.drew from HC.out.drew.bel) (by intro g' h; injection h with h; have := HC.out.glt; omega)))
          clear hr hpl
          go_wp2_with (fail)
          go_still_tail 15, (by kernel_rfl)
          go_wp2_with (fail)
          go_roundw
          case rel => exact ⟨j + 1, by go_num, by omega, by rw [HS.out]; exact HXn⟩
          case measure => first | omega | (simp [intOf]; done) | (simp [intOf]; omega)
        · have hjk : j = ps.length := by omega
          subst hjk
          have hd9 : decide ((ps.length : Int) < (ps.length : Int)) = false := decide_eq_false (by omega)
          have HC4 := Lib.hid (show Cpy w1 wr B6 g cap ss.length (Dv.put ss ps) left false by have := HC.out; rwa [List.take_length] at this)
          have HZ4 := Lib.hid (HZ1.out.upb HC4.out.bel)
          clear x1
          have c61 := HC4.out.b.cell (k := 1) rfl
          have c62 := HC4.out.b.cell (k := 2) rfl
          have c63 := HC4.out.b.cell (k := 3) rfl
          have d62 := HC4.out.b.frozen 2
          have hlo := HC4.out.lo
          have hB1 := HZ1.out.lt
          have n6 : w.heap.size + 1 ≠ B6 := by omega
          have n6' : B6 ≠ w.heap.size + 1 := by omega
          have hzw := HZ4.out.lt
          have z0 := HZ4.out.cell (k := 0) rfl
          have z1 := HZ4.out.cell (k := 1) rfl
          have z2 := HZ4.out.cell (k := 2) rfl
          have z3 := HZ4.out.cell (k := 3) rfl
          have f0 := HZ4.out.frozen 0
          have f1 := HZ4.out.frozen 1
          have f2 := HZ4.out.frozen 2
          have f3 := HZ4.out.frozen 3
          go_wp2_with (fail)
          have HC5 := HC4.out
          have HZ5 := HZ1.out.upb HC5.bel
          have HB5 := HB1.out.up HC5.bel
          have HO6 := HC5.o.box HZ5 (grown_set4 _ (w.heap.size + 1) (.slice (some ⟨g, 0, none⟩) ss.length cap) (.slice none 0 0) (.int .i64 (left)) (.bool false))
          have HZ6 := HZ5.set4 (.slice (some ⟨g, 0, none⟩) ss.length cap) (.slice none 0 0) (.int .i64 (left)) (.bool false)
          have hb := below_set4 HB5 (show w.heap.size ≤ w.heap.size + 1 by omega) (.slice (some ⟨g, 0, none⟩) ss.length cap) (.slice none 0 0) (.int .i64 (left)) (.bool false)
          refine bodyPost_ret (dk_out rfl rfl rfl HZ6) rfl ?_
          exact ⟨_, rfl, by rw [HR2.out]; exact isD_mk HO6.is IsWs.nil, hb, sec_ge (Nat.le_trans HB1.out.size (HC5.o.lt' g rfl))⟩

theorem refWriteS_is {d : Dk} {v u : Value} {b : By} {w : World} {e0 : Int} {r : Dk} (hv : IsD w v d) {a : Int} (hu : IsBytes w u b) (he : Dv.wrE d a b = e0) (hr : Dv.wr d a b = r) :
    Calls Try.prog 46 #[v, .int .i64 a, u] w fun e w' => ∃ A c A2 c2, e = .returned (.tuple #[.agg #[.slice A r.ss.length c, .slice A2 r.ps.length c2, .int .i64 r.left, .bool r.st], .int .i64 e0]) ∧ IsD w' (.agg #[.slice A r.ss.length c, .slice A2 r.ps.length c2, .int .i64 r.left, .bool r.st]) r ∧ Below w.heap.size w w' ∧ Sec w.heap.size v (.agg #[.slice A r.ss.length c, .slice A2 r.ps.length c2, .int .i64 r.left, .bool r.st]) := by
  subst he hr
  refine (refWriteS_any hv a hu).mono ?_
  rintro e w' ⟨x, rfl, hd, hb⟩
  obtain ⟨A, c, A2, c2, rfl, _⟩ := hd.open_
  exact ⟨A, c, A2, c2, rfl, hd, hb⟩
theorem refSyncS_is {d : Dk} {v : Value} {w : World} {e0 : Int} {r : Dk} (hv : IsD w v d) (he : Dv.syE d = e0) (hr : Dv.sy d = r) :
    Calls Try.prog 48 #[v] w fun e w' => ∃ A c A2 c2, e = .returned (.tuple #[.agg #[.slice A r.ss.length c, .slice A2 r.ps.length c2, .int .i64 r.left, .bool r.st], .int .i64 e0]) ∧ IsD w' (.agg #[.slice A r.ss.length c, .slice A2 r.ps.length c2, .int .i64 r.left, .bool r.st]) r ∧ Below w.heap.size w w' ∧ Sec w.heap.size v (.agg #[.slice A r.ss.length c, .slice A2 r.ps.length c2, .int .i64 r.left, .bool r.st]) := by
  subst he hr
  refine (refSyncS_any hv).mono ?_
  rintro e w' ⟨x, rfl, hd, hb⟩
  obtain ⟨A, c, A2, c2, rfl, _⟩ := hd.open_
  exact ⟨A, c, A2, c2, rfl, hd, hb⟩
end Go.Proofs.Ytkcnanclpkongaa

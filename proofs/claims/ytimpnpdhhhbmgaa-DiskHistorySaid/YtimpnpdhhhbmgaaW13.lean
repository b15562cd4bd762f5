/- Walk of the reference's Write. -/
import Derived.Test.YtimpnpdhhhbmgaaW12
namespace Go.Proofs.Ytimpnpdhhhbmgaa
open Go.RowKit
set_option linter.unusedVariables false
set_option linter.unusedSimpArgs false

theorem OwnWs.below {W W' : World} {base : Nat} {v : Value} {ps : List Wr} (h : OwnWs W base v ps) (hb : Below W.heap.size W W') : OwnWs W' base v ps := by
  obtain ⟨vs, hl, ho, hi⟩ := h
  exact ⟨vs, hl, row_below ho hb, fun i h h' => (hi i h h').below hb⟩
theorem OwnWs.lt {W : World} {base : Nat} {v : Value} {ps : List Wr} (h : OwnWs W base v ps) : ∀ g, v.ownBlock = some g → base ≤ g := by
  obtain ⟨vs, hl, ho, hi⟩ := h
  exact fun g hg => (World.ownsRow.lt ho g hg).1
theorem OwnSs.lt' {W : World} {base : Nat} {v : Value} {ps : List By} (h : OwnSs W base v ps) : ∀ g, v.ownBlock = some g → base ≤ g := by
  obtain ⟨vs, hl, ho, hi⟩ := h
  exact fun g hg => (World.ownsRow.lt ho g hg).1
theorem OwnBytes.below {W W' : World} {base : Nat} {v : Value} {bs : By} (h : OwnBytes W base v bs) (hb : Below W.heap.size W W') : OwnBytes W' base v bs := row_below h hb
theorem OwnBytes.lt' {W : World} {base : Nat} {v : Value} {bs : By} (h : OwnBytes W base v bs) : ∀ g, v.ownBlock = some g → base ≤ g := fun g hg => (World.ownsRow.lt h g hg).1
theorem OwnBytes.shape {W : World} {base : Nat} {v : Value} {bs : By} (h : OwnBytes W base v bs) : ∃ A c, v = .slice A bs.length c := own_slice h
theorem push2W_run {W X : World} (ty : TypeId) {v : Value} {ps : List Wr} {p : Wr} {dv : Value} (hb : Below W.heap.size W X) (hown : OwnWs X W.heap.size v ps) (hd : IsBytes W dv p.data) (hlen : ps.length ≤ 4096) :
    ∃ v' w', (Builtin.append_ #[23, 23] ty #[v, .slice (some ⟨X.heap.size, 0, none⟩) 1 1]).run Try.prog (X.alloc (.cells #[.int .i64 p.at_, dv] 54)) = .ok v' w' ∧
      (IsWs w' v' (ps ++ [p]) ∧ Below W.heap.size W w' ∧ (∃ g cap, v' = .slice (some ⟨g, 0, none⟩) (ps.length + 1) cap) ∧ (X.alloc (.cells #[.int .i64 p.at_, dv] 54)).grownBy w' v.ownBlock) := by
  have hx := al1 X (.cells #[.int .i64 p.at_, dv] 54)
  obtain ⟨v', w', h1, h2, h3, h4⟩ := appW_run (base := W.heap.size) ty (hown.below hx) (A := some ⟨X.heap.size, 0, none⟩) (c := 1) (us := [dv]) (qs := [p]) rfl (fun _ => ⟨X.heap.size, 0, rfl, by simp, fun i hi => by
    rw [Nat.zero_add]; exact (Cells.new X 54 [.int .i64 p.at_, dv]).cell (List.getElem?_eq_getElem hi)⟩) (fun i k1 k2 => by
      simp only [List.length_cons, List.length_nil] at k1
      obtain rfl : i = 0 := by omega
      exact OffB.of hd (hb.up hx) hown.lt) (by simp; omega) (hb.up hx).size
  obtain ⟨vs, hl, ho, hi⟩ := id h2
  obtain ⟨g, cap, e, _, _⟩ := own_form ho (by simp)
  refine ⟨v', w', h1, h2.is, (hb.up hx).grown h3 (hb.up hx).size hown.lt, ⟨g, cap, by rw [e]; simp⟩, h3⟩
def mzL : Value → Nat | .slice _ n _ => 128 - n | _ => 0
theorem pad_at {b : By} {k : Nat} (h : b.length + k = 128) : b ++ List.replicate k 0 = Dv.pad b := by unfold Dv.pad; rw [show 128 - b.length = k by omega]

set_option maxHeartbeats 8000000 in
set_option maxRecDepth 100000 in
theorem refWrite_any {d : Dk} {v u : Value} {b : By} {w : World} (hv : IsD w v d) (at0 : Int) (hu : IsBytes w u b) :
    Calls Try.prog 20 #[v, .int .i64 at0, u] w fun e w' => ∃ x, e = .returned (.tuple #[x, .int .i64 (Dv.wrE d at0 b)]) ∧ IsD w' x (Dv.wr d at0 b) ∧ Below w.heap.size w w' := by
  have HV := Lib.hid hv
  have HU := Lib.hid hu
  obtain ⟨A, c, A2, c2, rfl, h1, h2⟩ := hv.open_
  obtain ⟨A6, c6, rfl, _⟩ := id hu
  obtain ⟨ss, ps, left, st⟩ := d
  simp only at HV h1 h2 ⊢
  have H1 := Lib.hid h1
  have H2 := Lib.hid h2
  clear hv h1 h2 hu
  obtain ⟨e0, he⟩ : ∃ e, Dv.wrE ⟨ss, ps, left, st⟩ at0 b = e := ⟨_, rfl⟩
  obtain ⟨r0, hr⟩ : ∃ e, Dv.wr ⟨ss, ps, left, st⟩ at0 b = e := ⟨_, rfl⟩
  rw [he, hr]
  have HE := Lib.hid he
  have HR := Lib.hid hr
  clear he hr
  have HBAD := Lib.hid (show ¬ (Dv.Run ⟨ss, ps, left, st⟩ ∧ Dv.Has ⟨ss, ps, left, st⟩ at0) → e0 = 40 ∧ r0 = d0 from fun h => ⟨by rw [← HE.out]; exact if_neg h, by rw [← HR.out]; exact if_neg h⟩)
  have HX := Lib.hid ((Cells.new w 25 [Value.slice A ss.length c, Value.slice A2 ps.length c2, Value.int IntKind.i64 left, Value.bool st]).upb (al1 _ (.cells #[.slice none 0 0, .slice none 0 0, .int .i64 0, .bool false] 25)))
  have HZ := Lib.hid (Cells.new (w.alloc (.cells [Value.slice A ss.length c, Value.slice A2 ps.length c2, Value.int IntKind.i64 left, Value.bool st].toArray 25)) 25 [.slice none 0 0, .slice none 0 0, .int .i64 0, .bool false])
  have HB := Lib.hid ((al1 w (.cells [Value.slice A ss.length c, Value.slice A2 ps.length c2, Value.int IntKind.i64 left, Value.bool st].toArray 25)).up (al1 _ (.cells #[.slice none 0 0, .slice none 0 0, .int .i64 0, .bool false] 25)))
  obtain ⟨k0, hk0⟩ : ∃ k0, Dv.chk ⟨ss, ps, left, st⟩ = k0 := ⟨_, rfl⟩
  have HK0 := Lib.hid hk0
  have HRI := Lib.hid (show Dv.Run ⟨ss, ps, left, st⟩ ↔ k0 = 0 ∧ st = false by rw [← hk0]; exact run_iff)
  clear hk0
  go_enter Try.func20, Try.ntmps20
  go_wp2_with (fail)
  refine (refCheck_is (HV.out.upb HB.out) HK0.out).mono ?_
  rintro e w1 ⟨rfl, b1⟩
  have HX1 := Lib.hid (HX.out.upb b1)
  have HZ1 := Lib.hid (HZ.out.upb b1)
  have HB1 := Lib.hid (HB.out.up b1)
  clear b1 HX HZ HB
  simp only [World.size_alloc] at HZ1
  have hzw := HZ1.out.lt
  have z0 := HZ1.out.cell (k := 0) rfl
  have z1 := HZ1.out.cell (k := 1) rfl
  have z2 := HZ1.out.cell (k := 2) rfl
  have z3 := HZ1.out.cell (k := 3) rfl
  have f0 := HZ1.out.frozen 0
  have f1 := HZ1.out.frozen 1
  have f2 := HZ1.out.frozen 2
  have f3 := HZ1.out.frozen 3
  have x0 := HX1.out.cell (k := 0) rfl
  have x1 := HX1.out.cell (k := 1) rfl
  have x2 := HX1.out.cell (k := 2) rfl
  have x3 := HX1.out.cell (k := 3) rfl
  have g1 := HX1.out.frozen 1
  by_cases hk : k0 = 0
  case neg =>
    have hkb : (k0 != 0) = true := by simpa using hk
    have hkc : (k0 == 0) = false := by simpa using hk
    obtain ⟨rfl, rfl⟩ := HBAD.out (fun h => hk (HRI.out.1 h.1).1)
    clear hk
    go_wp2_with (fail)
    refine bodyPost_ret (dk_out rfl rfl rfl (HZ1.out.set4 (.slice none 0 0) (.slice none 0 0) (.int .i64 0) (.bool false))) rfl ?_
    exact ⟨_, rfl, IsD.zero, below_set4 HB1.out (by omega) _ _ _ _⟩
  case pos =>
  subst hk
  cases st with
  | true =>
    obtain ⟨rfl, rfl⟩ := HBAD.out (fun h => by have := h.1.2; cases this)
    go_wp2_with (fail)
    refine bodyPost_ret (dk_out rfl rfl rfl (HZ1.out.set4 (.slice none 0 0) (.slice none 0 0) (.int .i64 0) (.bool false))) rfl ?_
    exact ⟨_, rfl, IsD.zero, below_set4 HB1.out (by omega) _ _ _ _⟩
  | false =>
  have HRUN := Lib.hid (HRI.out.2 ⟨rfl, rfl⟩)
  by_cases t1 : at0 < 0
  case pos =>
    have dt1 : decide (at0 < 0) = true := decide_eq_true t1
    obtain ⟨rfl, rfl⟩ := HBAD.out (fun h => by have := h.2.1; omega)
    clear t1
    go_wp2_with (fail)
    refine bodyPost_ret (dk_out rfl rfl rfl (HZ1.out.set4 (.slice none 0 0) (.slice none 0 0) (.int .i64 0) (.bool false))) rfl ?_
    exact ⟨_, rfl, IsD.zero, below_set4 HB1.out (by omega) _ _ _ _⟩
  case neg =>
  have dt1 : decide (at0 < 0) = false := decide_eq_false t1
  by_cases t2 : (ss.length : Int) ≤ at0
  case pos =>
    have dt2 : decide ((ss.length : Int) ≤ at0) = true := decide_eq_true t2
    obtain ⟨rfl, rfl⟩ := HBAD.out (fun h => by have := h.2.2; simp only at this; omega)
    clear t1 t2
    go_wp2_with (fail)
    refine bodyPost_ret (dk_out rfl rfl rfl (HZ1.out.set4 (.slice none 0 0) (.slice none 0 0) (.int .i64 0) (.bool false))) rfl ?_
    exact ⟨_, rfl, IsD.zero, below_set4 HB1.out (by omega) _ _ _ _⟩
  case neg =>
  have dt2 : decide ((ss.length : Int) ≤ at0) = false := decide_eq_false t2
  have HHAS := Lib.hid (show Dv.Has ⟨ss, ps, left, false⟩ at0 by unfold Dv.Has; simp only; omega)
  clear t1 t2
  by_cases t1 : b.length ≤ 128
  case neg =>
    have dt3 : decide ((128 : Int) < (b.length : Int)) = true := decide_eq_true (by omega)
    obtain rfl : e0 = 1 := by rw [← HE.out]; unfold Dv.wrE; rw [if_pos ⟨HRUN.out, HHAS.out⟩, if_neg t1]
    obtain rfl : r0 = d0 := by rw [← HR.out]; unfold Dv.wr; rw [if_pos ⟨HRUN.out, HHAS.out⟩, if_neg t1]
    clear t1
    go_wp2_with (fail)
    refine bodyPost_ret (dk_out rfl rfl rfl (HZ1.out.set4 (.slice none 0 0) (.slice none 0 0) (.int .i64 0) (.bool false))) rfl ?_
    exact ⟨_, rfl, IsD.zero, below_set4 HB1.out (by omega) _ _ _ _⟩
  case pos =>
  have dt3 : decide ((128 : Int) < (b.length : Int)) = false := decide_eq_false (by omega)
  by_cases t2 : ps.length = 4096
  case pos =>
    have dt4 : ((ps.length : Int) == 4096) = true := by rw [t2]; rfl
    obtain rfl : e0 = 2 := by rw [← HE.out]; unfold Dv.wrE; rw [if_pos ⟨HRUN.out, HHAS.out⟩, if_pos t1, if_pos t2]
    obtain rfl : r0 = d0 := by rw [← HR.out]; unfold Dv.wr; rw [if_pos ⟨HRUN.out, HHAS.out⟩, if_pos t1, if_pos t2]
    clear t1 t2
    go_wp2_with (fail)
    refine bodyPost_ret (dk_out rfl rfl rfl (HZ1.out.set4 (.slice none 0 0) (.slice none 0 0) (.int .i64 0) (.bool false))) rfl ?_
    exact ⟨_, rfl, IsD.zero, below_set4 HB1.out (by omega) _ _ _ _⟩
  case neg =>
  have dt4 : ((ps.length : Int) == 4096) = false := beq_false_of_ne (by omega)
  obtain rfl : e0 = 0 := by rw [← HE.out]; unfold Dv.wrE; rw [if_pos ⟨HRUN.out, HHAS.out⟩, if_pos t1, if_neg t2]
  obtain rfl : r0 = ⟨ss, ps ++ [⟨at0, Dv.pad b⟩], left, false⟩ := by rw [← HR.out]; unfold Dv.wr; rw [if_pos ⟨HRUN.out, HHAS.out⟩, if_pos t1, if_neg t2]
  have HT1 := Lib.hid t1
  have hp4 := HRUN.out.1.p2
  simp only at hp4
  have HP4 := Lib.hid hp4
  clear t1 t2 hp4
  have HX2 := Lib.hid (HX1.out)
  go_wp2_with (at_builtin; go_must (refine wpList_app rfl (.tmp 37) (.tmp 38) 35 _ _ rfl rfl rfl (appB_run _ (ownB_made w1) (HU.out.upb (HB1.out.up (al1 w1 _))) (by have := HT1.out; simp; omega) (by simp)) ?_); rintro v2 w2 ⟨ho2, hg2, _⟩; have HO2 := Lib.hid ho2; have HB2 := Lib.hid (app_below (al1 w1 _) hg2 ownBlk); clear ho2 hg2)
  clear z0 z1 z2 z3 f0 f1 f2 f3 x0 x1 x2 x3 g1 hzw dt1 dt2 dt3 dt4
  have HO3 := Lib.hid (show OwnBytes w2 w1.heap.size v2 b by have := HO2.out; rwa [List.nil_append] at this)
  go_loopw [8] (fun dv wr => ∃ (k : Nat) (A : Option Addr) (c : Nat), dv = .slice A (b.length + k) c ∧ b.length + k ≤ 128 ∧ Hid (OwnBytes wr w1.heap.size dv (b ++ List.replicate k 0)) ∧ Hid (Below w1.heap.size w1 wr)) (fun dv _ => mzL dv)
  case atStart =>
    obtain ⟨A', c', e⟩ := HO3.out.shape
    exact ⟨0, A', c', e, HT1.out, by simpa using HO3, HB2⟩
  case round =>
    obtain ⟨k, A7, c7, rfl, hk, HO, HBw⟩ := hrel
    by_cases hlt : b.length + k < 128
    · have hd1 : decide (((b.length + k : Nat) : Int) < 128) = true := decide_eq_true (by omega)
      have HRP := Lib.hid (show b ++ List.replicate (k + 1) 0 = (b ++ List.replicate k 0) ++ [(0 : UInt8)] by rw [List.append_assoc, List.replicate_succ'])
      go_wp2_with (at_builtin; go_must (refine wpList_app rfl (.tmp 43) (.tmp 44) 35 _ _ rfl rfl rfl (appB_run (base := w1.heap.size) _ (HO.out.below (al1 wr (.cells #[.int .u8 0] 5))) (bytes_cells (bs := [0]) (Cells.new wr 5 [.int .u8 0]) rfl (Nat.le_refl _)) (by simp; omega) (by have := HBw.out.size; simp; omega)) ?_); rintro v3 w3 ⟨ho3, hg3, _⟩; have HO3' := Lib.hid ho3; have HB3 := Lib.hid ((HBw.out.up (al1 wr (.cells #[.int .u8 0] 5))).grown hg3 (HBw.out.up (al1 wr (.cells #[.int .u8 0] 5))).size (HO.out.lt')); clear ho3 hg3; obtain ⟨A8, c8, e8⟩ := HO3'.out.shape; simp only [List.length_append, List.length_replicate, List.length_cons, List.length_nil, Nat.zero_add] at e8; subst e8)
      go_roundw
      case rel => exact ⟨k + 1, A8, c8, by rw [Nat.add_assoc], by omega, by rw [HRP.out]; exact HO3', HB3⟩
      case measure => show 128 - _ < 128 - _; omega
    · have hd1 : decide (((b.length + k : Nat) : Int) < 128) = false := decide_eq_false (by omega)
      have hk2 : b.length + k = 128 := by omega
      have HDV := Lib.hid (show IsBytes wr (.slice A7 (b.length + k) c7) (Dv.pad b) by rw [← pad_at hk2]; exact HO.out.bytes)
      rw [hk2] at HDV ⊢
      have hd2 : decide ((128 : Int) < 128) = false := rfl
      clear HO hk
      have HXr := Lib.hid (HX1.out.upb HBw.out)
      have HZr := Lib.hid (HZ1.out.upb HBw.out)
      have HBr := Lib.hid (HB1.out.up HBw.out)
      have xx1 := HXr.out.cell (k := 1) rfl
      have hzr := HXr.out.lt
      go_wp2_with (first | (at_builtin; refine wpList_app rfl (.tmp 46) (.tmp 48) 23 _ _ rfl rfl rfl (appW_is _ (al1 wr _) (H2.out.upb HBr.out) (ownW_made wr) (by have := HP4.out; simp; omega)) ?_; rintro v4 w4 ⟨ho4, hg4, _⟩; have HO4 := Lib.hid (show OwnWs w4 wr.heap.size v4 ps by rwa [List.nil_append] at ho4); have HB4 := Lib.hid (app_below (al1 wr _) hg4 ownBlk); clear ho4 hg4) | (at_builtin; refine wpList_app rfl (.tmp 49) (.tmp 53) 23 _ _ rfl rfl rfl (push2W_run _ HB4.out HO4.out (p := ⟨at0, Dv.pad b⟩) HDV.out HP4.out) ?_; rintro v6 w6 ⟨hw6, hb6, ⟨g6, cap6, rfl⟩, _⟩; have HW6 := Lib.hid hw6; have HX6 := Lib.hid (HXr.out.upb hb6); have HZ6 := Lib.hid (HZr.out.upb hb6); have HB6 := Lib.hid (HBr.out.up hb6); clear hw6 hb6; have z0 := HZ6.out.cell (k := 0) rfl; have z1 := HZ6.out.cell (k := 1) rfl; have z2 := HZ6.out.cell (k := 2) rfl; have z3 := HZ6.out.cell (k := 3) rfl; have f0 := HZ6.out.frozen 0; have f1 := HZ6.out.frozen 1; have f2 := HZ6.out.frozen 2; have f3 := HZ6.out.frozen 3; have x0 := HX6.out.cell (k := 0) rfl; have x1 := HX6.out.cell (k := 1) rfl; have x2 := HX6.out.cell (k := 2) rfl; have x3 := HX6.out.cell (k := 3) rfl; have g1 := HX6.out.frozen 1; have hzw := HZ6.out.lt; have hxw := HX6.out.lt))
      have HZ7 := (HZ6.out.other (show w.heap.size + 1 ≠ w.heap.size by omega) 1 (.slice (some ⟨g6, 0, none⟩) (ps.length + 1) cap6)).set4 (.slice A ss.length c) (.slice (some ⟨g6, 0, none⟩) (ps.length + 1) cap6) (.int .i64 left) (.bool false)
      refine bodyPost_ret (dk_out rfl rfl rfl HZ7) rfl ?_
      have hb := below_set4 (HB6.out.setCell (p := ⟨w.heap.size, 1, none⟩) (Nat.le_refl _) (.slice (some ⟨g6, 0, none⟩) (ps.length + 1) cap6)) (show w.heap.size ≤ w.heap.size + 1 by omega) (.slice A ss.length c) (.slice (some ⟨g6, 0, none⟩) (ps.length + 1) cap6) (.int .i64 left) (.bool false)
      refine ⟨_, rfl, isD_mk (H1.out.upb hb) ?_, hb⟩
      exact (HW6.out.box HX6.out (grown_set _ _ 1 _)).box (HZ6.out.other (show w.heap.size + 1 ≠ w.heap.size by omega) 1 (.slice (some ⟨g6, 0, none⟩) (ps.length + 1) cap6)) (grown_set4 _ _ _ _ _ _)
end Go.Proofs.Ytimpnpdhhhbmgaa

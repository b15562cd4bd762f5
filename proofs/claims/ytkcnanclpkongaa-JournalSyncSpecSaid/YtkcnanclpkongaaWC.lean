/- Walk of Write. Walk of the reference's Write. Walk of Sync. Walk of Sync. -/
import Derived.Test.YtkcnanclpkongaaWB
import Derived.Deep.RegionHeld3
namespace Go.Proofs.Ytkcnanclpkongaa
section
open Go.RowKit
set_option linter.unusedVariables false
set_option linter.unusedSimpArgs false
set_option maxRecDepth 20000

theorem below_drop (w : World) {n : Nat} (h : n ≤ w.heap.size) : Below n w w := (Below.refl n w)
theorem src_of {W : World} {A : Option Addr} {n c : Nat} {bs : By} (h : IsBytes W (.slice A n c) bs) : 0 < (bs.map encB).length → ∃ ad, A = some ad ∧ ∀ j v, (bs.map encB)[j]? = some v → W.cell? (ad.add j) = some v := fun hp => by
  obtain ⟨A', c', e, _, hr⟩ := h
  injection e with e
  subst e
  cases A with
  | none =>
    obtain ⟨b, off, e, _⟩ := hr (by intro h; rw [h] at hp; simp at hp)
    cases e
  | some ad => exact ⟨ad, rfl, rowAt_cells hr⟩

theorem Cells.under {W W' : World} {n B : Nat} {t : TypeId} {cs : List Value} (h : Cells W B t cs) (hb : Below n W W') (hB : B < n) : Cells W' B t cs := (hb.block B hB).trans h
theorem pad_len' {b : By} (h : b.length ≤ 128) : (Dv.pad b).length = 128 := Dv.pad_len h

theorem grown_set (W : World) (B k : Nat) (u : Value) : W.grownBy (W.setCell ⟨B, k, none⟩ u) (some B) := ⟨rfl, rfl, rfl, by simp [World.setCell], fun b hb hne => Below.heap_setCell W ⟨B, k, none⟩ u b (fun e => hne (by rw [e]))⟩
theorem grown_trans {X Y Z : World} {o : Option Nat} (h : X.grownBy Y o) (k : Y.grownBy Z o) : X.grownBy Z o :=
  ⟨k.os.trans h.os, k.tape.trans h.tape, k.output.trans h.output, Nat.le_trans h.size k.size, fun b hb hne => (k.block b (Nat.lt_of_lt_of_le hb h.size) hne).trans (h.block b hb hne)⟩
theorem grown_set4 (W : World) (B : Nat) (b0 b1 b2 b3 : Value) : W.grownBy (set4 W B b0 b1 b2 b3) (some B) :=
  grown_trans (grown_trans (grown_trans (grown_set _ _ _ _) (grown_set _ _ _ _)) (grown_set _ _ _ _)) (grown_set _ _ _ _)
/-- bytes do not lie in the box of a disk -/
theorem IsBytes.offBox {W : World} {v : Value} {bs : By} (h : IsBytes W v bs) {B : Nat} {A n c A2 n2 c2 l st} (hC : Cells W B 25 [.slice A n c, .slice A2 n2 c2, .int .i64 l, .bool st]) : OffB (some B) W v bs := by
  obtain ⟨A', c', e, hc, hr⟩ := h
  refine ⟨A', c', e, hc, fun hn => ?_⟩
  obtain ⟨b, off, e1, hb, hcc⟩ := hr (by intro h0; simp at h0; exact hn h0)
  refine ⟨b, off, e1, fun e2 => ?_, hb, fun i hi => by rw [hcc i (by simpa using hi)]; simp⟩
  injection e2 with e2
  subst e2
  have h0 := hcc 0 (by simp; exact List.length_pos_iff.2 hn)
  rw [cell_of_row W B _ _ 25 (0, 0) hC] at h0
  match off with
  | 0 => simp [encB] at h0
  | 1 => simp [encB] at h0
  | 2 => simp [encB] at h0
  | 3 => simp [encB] at h0
  | n + 4 => simp at h0
theorem IsBytes.box {W W' : World} {v : Value} {bs : By} (h : IsBytes W v bs) {B : Nat} {A n c A2 n2 c2 l st} (hC : Cells W B 25 [.slice A n c, .slice A2 n2 c2, .int .i64 l, .bool st]) (hg : W.grownBy W' (some B)) : IsBytes W' v bs :=
  ((h.offBox hC).grown hg).bytes
theorem IsWs.box {W W' : World} {v : Value} {ps : List Wr} (h : IsWs W v ps) {B : Nat} {A n c A2 n2 c2 l st} (hC : Cells W B 25 [.slice A n c, .slice A2 n2 c2, .int .i64 l, .bool st]) (hg : W.grownBy W' (some B)) : IsWs W' v ps := by
  obtain ⟨A', c', vs, e, hc, hl, hr, hi⟩ := h
  refine ⟨A', c', vs, e, hc, hl, fun hn => ?_, fun i h h' => (hi i h h').box hC hg⟩
  obtain ⟨b, off, e1, hb, hcc⟩ := hr hn
  refine ⟨b, off, e1, Nat.lt_of_lt_of_le hb hg.size, fun i hx => ?_⟩
  rw [← hcc i hx]
  refine World.cell?_of_block (hg.block b hb (fun e2 => ?_))
  injection e2 with e2
  subst e2
  cases ps with
  | nil => exact hn (by simp [rowW])
  | cons p ps =>
    cases vs with
    | nil => exact hn (by simp [rowW])
    | cons u us =>
      have h0 := hcc 0 (by simp [rowW])
      have h1 := hcc 1 (by simp [rowW])
      simp only [rowW, List.getElem_cons_zero, List.getElem_cons_succ] at h0 h1
      have hu := hi 0 (by simp) (by simp)
      simp only [List.getElem_cons_zero] at hu
      obtain ⟨A9, c9, e9, _⟩ := hu
      subst e9
      rw [cell_of_row W b _ _ 25 (0, 0) hC] at h0 h1
      match off with
      | 0 => simp at h0
      | 1 => simp at h0
      | 2 => simp at h1
      | 3 => simp at h0
      | n + 4 => simp at h0

set_option maxHeartbeats 8000000 in
theorem Write_any {d : Dk} {v u : Value} {b : By} {w : World} (hv : IsD w v d) (at0 : Int) (hu : IsBytes w u b) :
    Calls Try.prog 26 #[v, .int .i64 at0, u] w fun e w' => ∃ x, e = .returned (.tuple #[x, .int .i64 (Dv.wrE d at0 b)]) ∧ IsD w' x (Dv.wr d at0 b) ∧ Below w.heap.size w w' ∧ Sec w.heap.size v x := by
  have HV := Lib.hid hv
  have HU := Lib.hid hu
  obtain ⟨A, c, A2, c2, rfl, h1, h2⟩ := hv.open_
  obtain ⟨A6, c6, rfl, _⟩ := id hu
  obtain ⟨ss, ps, left, st⟩ := d
  simp only at HV h1 h2 ⊢
  have H1 := Lib.hid h1
  have H2 := Lib.hid h2
  clear hv h1 h2 hu
  obtain ⟨e0, he⟩ : ∃ e, Dv.wrE ⟨ss, ps, left, st⟩ at0 b = e := ⟨_, rfl⟩
  obtain ⟨r0, hr⟩ : ∃ e, Dv.wr ⟨ss, ps, left, st⟩ at0 b = e := ⟨_, rfl⟩
  rw [he, hr]
  have HE := Lib.hid he
  have HR := Lib.hid hr
  clear he hr
  have HBAD := Lib.hid (show ¬ (Dv.Run ⟨ss, ps, left, st⟩ ∧ Dv.Has ⟨ss, ps, left, st⟩ at0) → e0 = 40 ∧ r0 = d0 from fun h => ⟨by rw [← HE.out]; exact if_neg h, by rw [← HR.out]; exact if_neg h⟩)
  have HX := Lib.hid ((Cells.new w 25 [Value.slice A ss.length c, Value.slice A2 ps.length c2, Value.int IntKind.i64 left, Value.bool st]).upb (al1 _ (.cells #[.slice none 0 0, .slice none 0 0, .int .i64 0, .bool false] 25)))
  have HZ := Lib.hid (Cells.new (w.alloc (.cells [Value.slice A ss.length c, Value.slice A2 ps.length c2, Value.int IntKind.i64 left, Value.bool st].toArray 25)) 25 [.slice none 0 0, .slice none 0 0, .int .i64 0, .bool false])
  have HB := Lib.hid ((al1 w (.cells [Value.slice A ss.length c, Value.slice A2 ps.length c2, Value.int IntKind.i64 left, Value.bool st].toArray 25)).up (al1 _ (.cells #[.slice none 0 0, .slice none 0 0, .int .i64 0, .bool false] 25)))
  obtain ⟨rb, hrb⟩ : ∃ b, decide (Dv.Run ⟨ss, ps, left, st⟩) = b := ⟨_, rfl⟩
  go_enter Try.func26, Try.ntmps26
  go_wp2_with (fail)
  refine (runs_is (HV.out.upb HB.out) hrb).mono ?_
  rintro e w1 ⟨rfl, b1⟩
  have HX1 := Lib.hid (HX.out.upb b1)
  have HZ1 := Lib.hid (HZ.out.upb b1)
  have HB1 := Lib.hid (HB.out.up b1)
  clear b1 HX HZ HB
  simp only [World.size_alloc] at HZ1
  have hzw := HZ1.out.lt
  have z0 := HZ1.out.cell (k := 0) rfl
  have z1 := HZ1.out.cell (k := 1) rfl
  have z2 := HZ1.out.cell (k := 2) rfl
  have z3 := HZ1.out.cell (k := 3) rfl
  have f0 := HZ1.out.frozen 0
  have f1 := HZ1.out.frozen 1
  have f2 := HZ1.out.frozen 2
  have f3 := HZ1.out.frozen 3
  have x0 := HX1.out.cell (k := 0) rfl
  have x1 := HX1.out.cell (k := 1) rfl
  have x2 := HX1.out.cell (k := 2) rfl
  have x3 := HX1.out.cell (k := 3) rfl
  have g1 := HX1.out.frozen 1
  cases rb with
  | false =>
    obtain ⟨rfl, rfl⟩ := HBAD.out (fun h => of_decide_eq_false hrb h.1)
    clear hrb
    go_wp2_with (fail)
    refine bodyPost_ret (dk_out rfl rfl rfl (HZ1.out.set4 (.slice none 0 0) (.slice none 0 0) (.int .i64 0) (.bool false))) rfl ?_
    exact ⟨_, rfl, IsD.zero, below_set4 HB1.out (by omega) _ _ _ _, sec_nil⟩
  | true =>
  have HRUN := Lib.hid (of_decide_eq_true hrb)
  clear hrb
  obtain ⟨rb, hrb⟩ : ∃ b, decide (Dv.Has ⟨ss, ps, left, st⟩ at0) = b := ⟨_, rfl⟩
  go_wp2_with (fail)
  refine (has_is (HV.out.upb HB1.out) hrb).mono ?_
  rintro e w2 ⟨rfl, b1⟩
  clear z0 z1 z2 z3 f0 f1 f2 f3 x0 x1 x2 x3 g1 hzw
  replace HX1 := Lib.hid (HX1.out.upb b1)
  replace HZ1 := Lib.hid (HZ1.out.upb b1)
  replace HB1 := Lib.hid (HB1.out.up b1)
  clear b1
  have hzw := HZ1.out.lt
  have z0 := HZ1.out.cell (k := 0) rfl
  have z1 := HZ1.out.cell (k := 1) rfl
  have z2 := HZ1.out.cell (k := 2) rfl
  have z3 := HZ1.out.cell (k := 3) rfl
  have f0 := HZ1.out.frozen 0
  have f1 := HZ1.out.frozen 1
  have f2 := HZ1.out.frozen 2
  have f3 := HZ1.out.frozen 3
  have x0 := HX1.out.cell (k := 0) rfl
  have x1 := HX1.out.cell (k := 1) rfl
  have x2 := HX1.out.cell (k := 2) rfl
  have x3 := HX1.out.cell (k := 3) rfl
  have g1 := HX1.out.frozen 1
  cases rb with
  | false =>
    obtain ⟨rfl, rfl⟩ := HBAD.out (fun h => of_decide_eq_false hrb h.2)
    clear hrb
    go_wp2_with (fail)
    refine bodyPost_ret (dk_out rfl rfl rfl (HZ1.out.set4 (.slice none 0 0) (.slice none 0 0) (.int .i64 0) (.bool false))) rfl ?_
    exact ⟨_, rfl, IsD.zero, below_set4 HB1.out (by omega) _ _ _ _, sec_nil⟩
  | true =>
  have HHAS := Lib.hid (of_decide_eq_true hrb)
  clear hrb
  by_cases t1 : b.length ≤ 128
  case neg =>
    have dt1 : decide ((128 : Int) < (b.length : Int)) = true := decide_eq_true (by omega)
    obtain rfl : e0 = 1 := by rw [← HE.out]; unfold Dv.wrE; rw [if_pos ⟨HRUN.out, HHAS.out⟩, if_neg t1]
    obtain rfl : r0 = d0 := by rw [← HR.out]; unfold Dv.wr; rw [if_pos ⟨HRUN.out, HHAS.out⟩, if_neg t1]
    clear t1
    go_wp2_with (fail)
    refine bodyPost_ret (dk_out rfl rfl rfl (HZ1.out.set4 (.slice none 0 0) (.slice none 0 0) (.int .i64 0) (.bool false))) rfl ?_
    exact ⟨_, rfl, IsD.zero, below_set4 HB1.out (by omega) _ _ _ _, sec_nil⟩
  case pos =>
  have dt1 : decide ((128 : Int) < (b.length : Int)) = false := decide_eq_false (by omega)
  by_cases t2 : ps.length = 4096
  case pos =>
    have dt2 : ((ps.length : Int) == 4096) = true := by rw [t2]; rfl
    obtain rfl : e0 = 2 := by rw [← HE.out]; unfold Dv.wrE; rw [if_pos ⟨HRUN.out, HHAS.out⟩, if_pos t1, if_pos t2]
    obtain rfl : r0 = d0 := by rw [← HR.out]; unfold Dv.wr; rw [if_pos ⟨HRUN.out, HHAS.out⟩, if_pos t1, if_pos t2]
    clear t1 t2
    go_wp2_with (fail)
    refine bodyPost_ret (dk_out rfl rfl rfl (HZ1.out.set4 (.slice none 0 0) (.slice none 0 0) (.int .i64 0) (.bool false))) rfl ?_
    exact ⟨_, rfl, IsD.zero, below_set4 HB1.out (by omega) _ _ _ _, sec_nil⟩
  case neg =>
  have dt2 : ((ps.length : Int) == 4096) = false := beq_false_of_ne (by omega)
  obtain rfl : e0 = 0 := by rw [← HE.out]; unfold Dv.wrE; rw [if_pos ⟨HRUN.out, HHAS.out⟩, if_pos t1, if_neg t2]
  obtain rfl : r0 = ⟨ss, ps ++ [⟨at0, Dv.pad b⟩], left, st⟩ := by rw [← HR.out]; unfold Dv.wr; rw [if_pos ⟨HRUN.out, HHAS.out⟩, if_pos t1, if_neg t2]
  have HT1 := Lib.hid t1
  have hp4 := HRUN.out.1.p2
  simp only at hp4
  have HP4 := Lib.hid hp4
  obtain ⟨ZL, hZL, hmk⟩ := make_zs
  have HZL := Lib.hid hZL
  clear t1 t2 hp4 hZL
  have HCB := Lib.hid (show (b.map encB).length = Nat.min b.length 128 by rw [List.length_map]; exact (Nat.min_eq_left HT1.out).symm)
  have HCF := Lib.hid (show 0 + (b.map encB).length ≤ ZL.length by rw [HZL.out]; simp only [List.length_map]; unfold Dv.zs; rw [List.length_replicate]; have := HT1.out; omega)
  have HC1 := Lib.hid (show ∀ v ∈ b.map encB, v.oneCell' = true by intro v hv; simp only [List.mem_map] at hv; obtain ⟨y, _, rfl⟩ := hv; rfl)
  have HSRC := Lib.hid (src_of (HU.out.upb (HB1.out.up (al1 w2 (.cells ZL.toArray 5)))))
  go_wp2_with (refine wpList_copy_splice rfl (.tmp 32) (.tmp 33) 35 35 rfl 5 Try.underlying35 (by kernel_rfl) _ _ 128 128 b.length c6 rfl rfl w2.heap.size 0 ZL 5 (Cells.new w2 5 ZL) (b.map encB) HCB.out (fun hpos => ⟨rfl, HSRC.out hpos⟩) HCF.out HC1.out w2.heap.size (w2.alloc (.cells ZL.toArray 5)) (below_drop (w2.alloc (.cells ZL.toArray 5)) (by simp)) (Nat.le_refl _) ?_; intro w3 hd3 hb3; have HX3 := Lib.hid (((HX1.out.upb (al1 w2 (.cells ZL.toArray 5))).under hb3 (by omega))); have HZ3 := Lib.hid (((HZ1.out.upb (al1 w2 (.cells ZL.toArray 5))).under hb3 (by omega))); have HB3 := Lib.hid ((HB1.out.up (al1 w2 (.cells ZL.toArray 5))).trans (hb3.mono HB1.out.size)); have HD3 := Lib.hid (bytes_cells (bs := Dv.pad b) (n := 128) (c := 128) (W := w3) (g := w2.heap.size) (by rw [← pad_splice HT1.out, ← HZL.out]; exact hd3.out) (pad_len' HT1.out).symm (Nat.le_refl _)); clear hd3 hb3; have y1 := HX3.out.cell (k := 1) rfl)
  clear z0 z1 z2 z3 f0 f1 f2 f3 x0 x1 x2 x3 g1 hzw HSRC HCB HCF HC1 hmk
  refine (cloneW_any (H2.out.upb HB3.out) (by have := HP4.out; omega)).mono ?_
  rintro e w4 ⟨x4, rfl, ho, b4⟩
  obtain ⟨A4, c4, us, rfl, hle4, hl4, hr4, hi4, hA4⟩ := ho.row
  have HO4 := Lib.hid (And.intro hl4 (And.intro hr4 (And.intro hi4 hA4)))
  have HX4 := Lib.hid (HX3.out.upb b4)
  have HZ4 := Lib.hid (HZ3.out.upb b4)
  have HB4 := Lib.hid (HB3.out.up b4)
  have HD4 := Lib.hid (HD3.out.upb b4)
  clear y1 HX3 HZ3 HB3 HD3 b4 ho
  have HL4 := Lib.hid (And.intro hle4 hA4)
  clear hle4 hA4 hl4 hr4 hi4
  go_wp2_with (fail)
  refine (clipN_any HL4.out.1 HL4.out.2).mono ?_
  rintro e w5 ⟨rfl, rfl⟩
  go_wp2_with (at_builtin; go_must (refine wpList_app rfl (.tmp 38) (.tmp 42) 23 _ _ rfl rfl rfl (pushW_run _ HO4.out.1 HO4.out.2.1 HO4.out.2.2.1 HO4.out.2.2.2 (p := ⟨at0, Dv.pad b⟩) HD4.out HP4.out) ?_); rintro v6 w6 ⟨hw6, hb6, g6, cap6, rfl⟩; have HW6 := Lib.hid hw6; have HX6 := Lib.hid (HX4.out.upb hb6); have HZ6 := Lib.hid (HZ4.out.upb hb6); have HB6 := Lib.hid (HB4.out.up hb6); clear hw6 hb6; have z0 := HZ6.out.cell (k := 0) rfl; have z1 := HZ6.out.cell (k := 1) rfl; have z2 := HZ6.out.cell (k := 2) rfl; have z3 := HZ6.out.cell (k := 3) rfl; have f0 := HZ6.out.frozen 0; have f1 := HZ6.out.frozen 1; have f2 := HZ6.out.frozen 2; have f3 := HZ6.out.frozen 3; have x0 := HX6.out.cell (k := 0) rfl; have x1 := HX6.out.cell (k := 1) rfl; have x2 := HX6.out.cell (k := 2) rfl; have x3 := HX6.out.cell (k := 3) rfl; have g1 := HX6.out.frozen 1; have hzw := HZ6.out.lt)
  have HZ7 := (HZ6.out.other (show w.heap.size + 1 ≠ w.heap.size by omega) 1 (.slice (some ⟨g6, 0, none⟩) (ps.length + 1) cap6)).set4 (.slice A ss.length c) (.slice (some ⟨g6, 0, none⟩) (ps.length + 1) cap6) (.int .i64 left) (.bool st)
  refine bodyPost_ret (dk_out rfl rfl rfl HZ7) rfl ?_
  have hb := below_set4 (HB6.out.setCell (p := ⟨w.heap.size, 1, none⟩) (Nat.le_refl _) (.slice (some ⟨g6, 0, none⟩) (ps.length + 1) cap6)) (show w.heap.size ≤ w.heap.size + 1 by omega) (.slice A ss.length c) (.slice (some ⟨g6, 0, none⟩) (ps.length + 1) cap6) (.int .i64 left) (.bool st)
  refine ⟨_, rfl, isD_mk (H1.out.upb hb) ?_, hb, sec_same⟩
  exact (HW6.out.box HX6.out (grown_set _ _ 1 _)).box (HZ6.out.other (show w.heap.size + 1 ≠ w.heap.size by omega) 1 (.slice (some ⟨g6, 0, none⟩) (ps.length + 1) cap6)) (grown_set4 _ _ _ _ _ _)
end
section
open Go.RowKit
set_option linter.unusedVariables false
set_option linter.unusedSimpArgs false
set_option maxRecDepth 20000

theorem OwnWs.below {W W' : World} {base : Nat} {v : Value} {ps : List Wr} (h : OwnWs W base v ps) (hb : Below W.heap.size W W') : OwnWs W' base v ps := by
  obtain ⟨vs, hl, ho, hi⟩ := h
  exact ⟨vs, hl, row_below ho hb, fun i h h' => (hi i h h').below hb⟩
theorem OwnWs.lt {W : World} {base : Nat} {v : Value} {ps : List Wr} (h : OwnWs W base v ps) : ∀ g, v.ownBlock = some g → base ≤ g := by
  obtain ⟨vs, hl, ho, hi⟩ := h
  exact fun g hg => (World.ownsRow.lt ho g hg).1
theorem OwnSs.lt' {W : World} {base : Nat} {v : Value} {ps : List By} (h : OwnSs W base v ps) : ∀ g, v.ownBlock = some g → base ≤ g := by
  obtain ⟨vs, hl, ho, hi⟩ := h
  exact fun g hg => (World.ownsRow.lt ho g hg).1
theorem OwnBytes.below {W W' : World} {base : Nat} {v : Value} {bs : By} (h : OwnBytes W base v bs) (hb : Below W.heap.size W W') : OwnBytes W' base v bs := row_below h hb
theorem OwnBytes.lt' {W : World} {base : Nat} {v : Value} {bs : By} (h : OwnBytes W base v bs) : ∀ g, v.ownBlock = some g → base ≤ g := fun g hg => (World.ownsRow.lt h g hg).1
theorem OwnBytes.shape {W : World} {base : Nat} {v : Value} {bs : By} (h : OwnBytes W base v bs) : ∃ A c, v = .slice A bs.length c := own_slice h
theorem push2W_run {W X : World} (ty : TypeId) {v : Value} {ps : List Wr} {p : Wr} {dv : Value} (hb : Below W.heap.size W X) (hown : OwnWs X W.heap.size v ps) (hd : IsBytes W dv p.data) (hlen : ps.length ≤ 4096) :
    ∃ v' w', (Builtin.append_ #[23, 23] ty #[v, .slice (some ⟨X.heap.size, 0, none⟩) 1 1]).run Try.prog (X.alloc (.cells #[.int .i64 p.at_, dv] 76)) = .ok v' w' ∧
      (IsWs w' v' (ps ++ [p]) ∧ Below W.heap.size W w' ∧ (∃ g cap, v' = .slice (some ⟨g, 0, none⟩) (ps.length + 1) cap) ∧ (X.alloc (.cells #[.int .i64 p.at_, dv] 76)).grownBy w' v.ownBlock) := by
  have hx := al1 X (.cells #[.int .i64 p.at_, dv] 76)
  obtain ⟨v', w', h1, h2, h3, h4⟩ := appW_run (base := W.heap.size) ty (hown.below hx) (A := some ⟨X.heap.size, 0, none⟩) (c := 1) (us := [dv]) (qs := [p]) rfl (fun _ => ⟨X.heap.size, 0, rfl, by simp, fun i hi => by
    rw [Nat.zero_add]; exact (Cells.new X 76 [.int .i64 p.at_, dv]).cell (List.getElem?_eq_getElem hi)⟩) (fun i k1 k2 => by
      simp only [List.length_cons, List.length_nil] at k1
      obtain rfl : i = 0 := by omega
      exact OffB.of hd (hb.up hx) hown.lt) (by simp; omega) (hb.up hx).size
  obtain ⟨vs, hl, ho, hi⟩ := id h2
  obtain ⟨g, cap, e, _, _⟩ := own_form ho (by simp)
  refine ⟨v', w', h1, h2.is, (hb.up hx).grown h3 (hb.up hx).size hown.lt, ⟨g, cap, by rw [e]; simp⟩, h3⟩
def mzL : Value → Nat | .slice _ n _ => 128 - n | _ => 0
theorem pad_at {b : By} {k : Nat} (h : b.length + k = 128) : b ++ List.replicate k 0 = Dv.pad b := by unfold Dv.pad; rw [show 128 - b.length = k by omega]

set_option maxHeartbeats 8000000 in
set_option maxRecDepth 100000 in
theorem refWrite_any {d : Dk} {v u : Value} {b : By} {w : World} (hv : IsD w v d) (at0 : Int) (hu : IsBytes w u b) :
    Calls Try.prog 46 #[v, .int .i64 at0, u] w fun e w' => ∃ x, e = .returned (.tuple #[x, .int .i64 (Dv.wrE d at0 b)]) ∧ IsD w' x (Dv.wr d at0 b) ∧ Below w.heap.size w w' := by
  have HV := Lib.hid hv
  have HU := Lib.hid hu
  obtain ⟨A, c, A2, c2, rfl, h1, h2⟩ := hv.open_
  obtain ⟨A6, c6, rfl, _⟩ := id hu
  obtain ⟨ss, ps, left, st⟩ := d
  simp only at HV h1 h2 ⊢
  have H1 := Lib.hid h1
  have H2 := Lib.hid h2
  clear hv h1 h2 hu
  obtain ⟨e0, he⟩ : ∃ e, Dv.wrE ⟨ss, ps, left, st⟩ at0 b = e := ⟨_, rfl⟩
  obtain ⟨r0, hr⟩ : ∃ e, Dv.wr ⟨ss, ps, left, st⟩ at0 b = e := ⟨_, rfl⟩
  rw [he, hr]
  have HE := Lib.hid he
  have HR := Lib.hid hr
  clear he hr
  have HBAD := Lib.hid (show ¬ (Dv.Run ⟨ss, ps, left, st⟩ ∧ Dv.Has ⟨ss, ps, left, st⟩ at0) → e0 = 40 ∧ r0 = d0 from fun h => ⟨by rw [← HE.out]; exact if_neg h, by rw [← HR.out]; exact if_neg h⟩)
  have HX := Lib.hid ((Cells.new w 25 [Value.slice A ss.length c, Value.slice A2 ps.length c2, Value.int IntKind.i64 left, Value.bool st]).upb (al1 _ (.cells #[.slice none 0 0, .slice none 0 0, .int .i64 0, .bool false] 25)))
  have HZ := Lib.hid (Cells.new (w.alloc (.cells [Value.slice A ss.length c, Value.slice A2 ps.length c2, Value.int IntKind.i64 left, Value.bool st].toArray 25)) 25 [.slice none 0 0, .slice none 0 0, .int .i64 0, .bool false])
  have HB := Lib.hid ((al1 w (.cells [Value.slice A ss.length c, Value.slice A2 ps.length c2, Value.int IntKind.i64 left, Value.bool st].toArray 25)).up (al1 _ (.cells #[.slice none 0 0, .slice none 0 0, .int .i64 0, .bool false] 25)))
  obtain ⟨k0, hk0⟩ : ∃ k0, Dv.chk ⟨ss, ps, left, st⟩ = k0 := ⟨_, rfl⟩
  have HK0 := Lib.hid hk0
  have HRI := Lib.hid (show Dv.Run ⟨ss, ps, left, st⟩ ↔ k0 = 0 ∧ st = false by rw [← hk0]; exact run_iff)
  clear hk0
  go_enter Try.func46, Try.ntmps46
  go_wp2_with (fail)
  refine (refCheck_is (HV.out.upb HB.out) HK0.out).mono ?_
  rintro e w1 ⟨rfl, b1⟩
  have HX1 := Lib.hid (HX.out.upb b1)
  have HZ1 := Lib.hid (HZ.out.upb b1)
  have HB1 := Lib.hid (HB.out.up b1)
  clear b1 HX HZ HB
  simp only [World.size_alloc] at HZ1
  have hzw := HZ1.out.lt
  have z0 := HZ1.out.cell (k := 0) rfl
  have z1 := HZ1.out.cell (k := 1) rfl
  have z2 := HZ1.out.cell (k := 2) rfl
  have z3 := HZ1.out.cell (k := 3) rfl
  have f0 := HZ1.out.frozen 0
  have f1 := HZ1.out.frozen 1
  have f2 := HZ1.out.frozen 2
  have f3 := HZ1.out.frozen 3
  have x0 := HX1.out.cell (k := 0) rfl
  have x1 := HX1.out.cell (k := 1) rfl
  have x2 := HX1.out.cell (k := 2) rfl
  have x3 := HX1.out.cell (k := 3) rfl
  have g1 := HX1.out.frozen 1
  by_cases hk : k0 = 0
  case neg =>
    have hkb : (k0 != 0) = true := by simpa using hk
    have hkc : (k0 == 0) = false := by simpa using hk
    obtain ⟨rfl, rfl⟩ := HBAD.out (fun h => hk (HRI.out.1 h.1).1)
    clear hk
    go_wp2_with (fail)
    refine bodyPost_ret (dk_out rfl rfl rfl (HZ1.out.set4 (.slice none 0 0) (.slice none 0 0) (.int .i64 0) (.bool false))) rfl ?_
    exact ⟨_, rfl, IsD.zero, below_set4 HB1.out (by omega) _ _ _ _⟩
  case pos =>
  subst hk
  cases st with
  | true =>
    obtain ⟨rfl, rfl⟩ := HBAD.out (fun h => by have := h.1.2; cases this)
    go_wp2_with (fail)
    refine bodyPost_ret (dk_out rfl rfl rfl (HZ1.out.set4 (.slice none 0 0) (.slice none 0 0) (.int .i64 0) (.bool false))) rfl ?_
    exact ⟨_, rfl, IsD.zero, below_set4 HB1.out (by omega) _ _ _ _⟩
  | false =>
  have HRUN := Lib.hid (HRI.out.2 ⟨rfl, rfl⟩)
  by_cases t1 : at0 < 0
  case pos =>
    have dt1 : decide (at0 < 0) = true := decide_eq_true t1
    obtain ⟨rfl, rfl⟩ := HBAD.out (fun h => by have := h.2.1; omega)
    clear t1
    go_wp2_with (fail)
    refine bodyPost_ret (dk_out rfl rfl rfl (HZ1.out.set4 (.slice none 0 0) (.slice none 0 0) (.int .i64 0) (.bool false))) rfl ?_
    exact ⟨_, rfl, IsD.zero, below_set4 HB1.out (by omega) _ _ _ _⟩
  case neg =>
  have dt1 : decide (at0 < 0) = false := decide_eq_false t1
  by_cases t2 : (ss.length : Int) ≤ at0
  case pos =>
    have dt2 : decide ((ss.length : Int) ≤ at0) = true := decide_eq_true t2
    obtain ⟨rfl, rfl⟩ := HBAD.out (fun h => by have := h.2.2; simp only at this; omega)
    clear t1 t2
    go_wp2_with (fail)
    refine bodyPost_ret (dk_out rfl rfl rfl (HZ1.out.set4 (.slice none 0 0) (.slice none 0 0) (.int .i64 0) (.bool false))) rfl ?_
    exact ⟨_, rfl, IsD.zero, below_set4 HB1.out (by omega) _ _ _ _⟩
  case neg =>
  have dt2 : decide ((ss.length : Int) ≤ at0) = false := decide_eq_false t2
  have HHAS := Lib.hid (show Dv.Has ⟨ss, ps, left, false⟩ at0 by unfold Dv.Has; simp only; omega)
  clear t1 t2
  by_cases t1 : b.length ≤ 128
  case neg =>
    have dt3 : decide ((128 : Int) < (b.length : Int)) = true := decide_eq_true (by omega)
    obtain rfl : e0 = 1 := by rw [← HE.out]; unfold Dv.wrE; rw [if_pos ⟨HRUN.out, HHAS.out⟩, if_neg t1]
    obtain rfl : r0 = d0 := by rw [← HR.out]; unfold Dv.wr; rw [if_pos ⟨HRUN.out, HHAS.out⟩, if_neg t1]
    clear t1
    go_wp2_with (fail)
    refine bodyPost_ret (dk_out rfl rfl rfl (HZ1.out.set4 (.slice none 0 0) (.slice none 0 0) (.int .i64 0) (.bool false))) rfl ?_
    exact ⟨_, rfl, IsD.zero, below_set4 HB1.out (by omega) _ _ _ _⟩
  case pos =>
  have dt3 : decide ((128 : Int) < (b.length : Int)) = false := decide_eq_false (by omega)
  by_cases t2 : ps.length = 4096
  case pos =>
    have dt4 : ((ps.length : Int) == 4096) = true := by rw [t2]; rfl
    obtain rfl : e0 = 2 := by rw [← HE.out]; unfold Dv.wrE; rw [if_pos ⟨HRUN.out, HHAS.out⟩, if_pos t1, if_pos t2]
    obtain rfl : r0 = d0 := by rw [← HR.out]; unfold Dv.wr; rw [if_pos ⟨HRUN.out, HHAS.out⟩, if_pos t1, if_pos t2]
    clear t1 t2
    go_wp2_with (fail)
    refine bodyPost_ret (dk_out rfl rfl rfl (HZ1.out.set4 (.slice none 0 0) (.slice none 0 0) (.int .i64 0) (.bool false))) rfl ?_
    exact ⟨_, rfl, IsD.zero, below_set4 HB1.out (by omega) _ _ _ _⟩
  case neg =>
  have dt4 : ((ps.length : Int) == 4096) = false := beq_false_of_ne (by omega)
  obtain rfl : e0 = 0 := by rw [← HE.out]; unfold Dv.wrE; rw [if_pos ⟨HRUN.out, HHAS.out⟩, if_pos t1, if_neg t2]
  obtain rfl : r0 = ⟨ss, ps ++ [⟨at0, Dv.pad b⟩], left, false⟩ := by rw [← HR.out]; unfold Dv.wr; rw [if_pos ⟨HRUN.out, HHAS.out⟩, if_pos t1, if_neg t2]
  have HT1 := Lib.hid t1
  have hp4 := HRUN.out.1.p2
  simp only at hp4
  have HP4 := Lib.hid hp4
  clear t1 t2 hp4
  have HX2 := Lib.hid (HX1.out)
  go_wp2_with (at_builtin; go_must (refine wpList_app rfl (.tmp 37) (.tmp 38) 35 _ _ rfl rfl rfl (appB_run _ (ownB_made w1) (HU.out.upb (HB1.out.up (al1 w1 _))) (by have := HT1.out; simp; omega) (by simp)) ?_); rintro v2 w2 ⟨ho2, hg2, _⟩; have HO2 := Lib.hid ho2; have HB2 := Lib.hid (app_below (al1 w1 _) hg2 ownBlk); clear ho2 hg2)
  clear z0 z1 z2 z3 f0 f1 f2 f3 x0 x1 x2 x3 g1 hzw dt1 dt2 dt3 dt4
  have HO3 := Lib.hid (show OwnBytes w2 w1.heap.size v2 b by have := HO2.out; rwa [List.nil_append] at this)
  go_loopw [8] (fun dv wr => ∃ (k : Nat) (A : Option Addr) (c : Nat), dv = .slice A (b.length + k) c ∧ b.length + k ≤ 128 ∧ Hid (OwnBytes wr w1.heap.size dv (b ++ List.replicate k 0)) ∧ Hid (Below w1.heap.size w1 wr)) (fun dv _ => mzL dv)
  case atStart =>
    obtain ⟨A', c', e⟩ := HO3.out.shape
    exact ⟨0, A', c', e, HT1.out, by simpa using HO3, HB2⟩
  case round =>
    obtain ⟨k, A7, c7, rfl, hk, HO, HBw⟩ := hrel
    by_cases hlt : b.length + k < 128
    · have hd1 : decide (((b.length + k : Nat) : Int) < 128) = true := decide_eq_true (by omega)
      have HRP := Lib.hid (show b ++ List.replicate (k + 1) 0 = (b ++ List.replicate k 0) ++ [(0 : UInt8)] by rw [List.append_assoc, List.replicate_succ'])
      go_wp2_with (at_builtin; go_must (refine wpList_app rfl (.tmp 43) (.tmp 44) 35 _ _ rfl rfl rfl (appB_run (base := w1.heap.size) _ (HO.out.below (al1 wr (.cells #[.int .u8 0] 5))) (bytes_cells (bs := [0]) (Cells.new wr 5 [.int .u8 0]) rfl (Nat.le_refl _)) (by simp; omega) (by have := HBw.out.size; simp; omega)) ?_); rintro v3 w3 ⟨ho3, hg3, _⟩; have HO3' := Lib.hid ho3; have HB3 := Lib.hid ((HBw.out.up (al1 wr (.cells #[.int .u8 0] 5))).grown hg3 (HBw.out.up (al1 wr (.cells #[.int .u8 0] 5))).size (HO.out.lt')); clear ho3 hg3; obtain ⟨A8, c8, e8⟩ := HO3'.out.shape; simp only [List.length_append, List.length_replicate, List.length_cons, List.length_nil, Nat.zero_add] at e8; subst e8)
      go_roundw
      case rel => exact ⟨k + 1, A8, c8, by rw [Nat.add_assoc], by omega, by rw [HRP.out]; exact HO3', HB3⟩
      case measure => show 128 - _ < 128 - _; omega
    · have hd1 : decide (((b.length + k : Nat) : Int) < 128) = false := decide_eq_false (by omega)
      have hk2 : b.length + k = 128 := by omega
      have HDV := Lib.hid (show IsBytes wr (.slice A7 (b.length + k) c7) (Dv.pad b) by rw [← pad_at hk2]; exact HO.out.bytes)
      rw [hk2] at HDV ⊢
      have hd2 : decide ((128 : Int) < 128) = false := rfl
      clear HO hk
      have HXr := Lib.hid (HX1.out.upb HBw.out)
      have HZr := Lib.hid (HZ1.out.upb HBw.out)
      have HBr := Lib.hid (HB1.out.up HBw.out)
      have xx1 := HXr.out.cell (k := 1) rfl
      have hzr := HXr.out.lt
      go_wp2_with (first | (at_builtin; refine wpList_app rfl (.tmp 46) (.tmp 48) 23 _ _ rfl rfl rfl (appW_is _ (al1 wr _) (H2.out.upb HBr.out) (ownW_made wr) (by have := HP4.out; simp; omega)) ?_; rintro v4 w4 ⟨ho4, hg4, _⟩; have HO4 := Lib.hid (show OwnWs w4 wr.heap.size v4 ps by rwa [List.nil_append] at ho4); have HB4 := Lib.hid (app_below (al1 wr _) hg4 ownBlk); clear ho4 hg4) | (at_builtin; refine wpList_app rfl (.tmp 49) (.tmp 53) 23 _ _ rfl rfl rfl (push2W_run _ HB4.out HO4.out (p := ⟨at0, Dv.pad b⟩) HDV.out HP4.out) ?_; rintro v6 w6 ⟨hw6, hb6, ⟨g6, cap6, rfl⟩, _⟩; have HW6 := Lib.hid hw6; have HX6 := Lib.hid (HXr.out.upb hb6); have HZ6 := Lib.hid (HZr.out.upb hb6); have HB6 := Lib.hid (HBr.out.up hb6); clear hw6 hb6; have z0 := HZ6.out.cell (k := 0) rfl; have z1 := HZ6.out.cell (k := 1) rfl; have z2 := HZ6.out.cell (k := 2) rfl; have z3 := HZ6.out.cell (k := 3) rfl; have f0 := HZ6.out.frozen 0; have f1 := HZ6.out.frozen 1; have f2 := HZ6.out.frozen 2; have f3 := HZ6.out.frozen 3; have x0 := HX6.out.cell (k := 0) rfl; have x1 := HX6.out.cell (k := 1) rfl; have x2 := HX6.out.cell (k := 2) rfl; have x3 := HX6.out.cell (k := 3) rfl; have g1 := HX6.out.frozen 1; have hzw := HZ6.out.lt; have hxw := HX6.out.lt))
      have HZ7 := (HZ6.out.other (show w.heap.size + 1 ≠ w.heap.size by omega) 1 (.slice (some ⟨g6, 0, none⟩) (ps.length + 1) cap6)).set4 (.slice A ss.length c) (.slice (some ⟨g6, 0, none⟩) (ps.length + 1) cap6) (.int .i64 left) (.bool false)
      refine bodyPost_ret (dk_out rfl rfl rfl HZ7) rfl ?_
      have hb := below_set4 (HB6.out.setCell (p := ⟨w.heap.size, 1, none⟩) (Nat.le_refl _) (.slice (some ⟨g6, 0, none⟩) (ps.length + 1) cap6)) (show w.heap.size ≤ w.heap.size + 1 by omega) (.slice A ss.length c) (.slice (some ⟨g6, 0, none⟩) (ps.length + 1) cap6) (.int .i64 left) (.bool false)
      refine ⟨_, rfl, isD_mk (H1.out.upb hb) ?_, hb⟩
      exact (HW6.out.box HX6.out (grown_set _ _ 1 _)).box (HZ6.out.other (show w.heap.size + 1 ≠ w.heap.size by omega) 1 (.slice (some ⟨g6, 0, none⟩) (ps.length + 1) cap6)) (grown_set4 _ _ _ _ _ _)
end
section
open Go.RowKit
set_option linter.unusedVariables false
set_option linter.unusedSimpArgs false
set_option maxRecDepth 20000

theorem ws_take {w : World} {A : Option Addr} {n c : Nat} {ps : List Wr} (h : IsWs w (.slice A n c) ps) {k c' : Nat} (hk : k ≤ ps.length) (hc : k ≤ c') : IsWs w (.slice A k c') (ps.take k) := by
  obtain ⟨A', c2, vs, e, h1, hl, hr, hi⟩ := h
  injection e with e
  subst e
  refine ⟨A, c', vs.take k, by rw [List.length_take, Nat.min_eq_left hk], by rw [List.length_take]; omega, by rw [List.length_take, List.length_take, hl], fun hn => ?_, fun i q1 q2 => ?_⟩
  · rw [rowW_take] at hn ⊢
    have hne : rowW ps vs ≠ [] := by intro h0; rw [h0] at hn; simp at hn
    obtain ⟨b, off, e1, hb, hcc⟩ := hr hne
    refine ⟨b, off, e1, hb, fun i hx => ?_⟩
    rw [List.getElem_take]
    exact hcc i _
  · simp only [List.length_take] at q1 q2
    rw [List.getElem_take, List.getElem_take]
    exact hi i (by omega) (by omega)
theorem OffB.box {o : Option Nat} {W W' : World} {v : Value} {bs : By} (h : OffB o W v bs) {B : Nat} {A n c A2 n2 c2 l st} (hC : Cells W B 25 [.slice A n c, .slice A2 n2 c2, .int .i64 l, .bool st]) (hg : W.grownBy W' (some B)) : OffB o W' v bs := by
  obtain ⟨A1, c1, e1, hc1, hr1⟩ := h.bytes.offBox hC
  obtain ⟨A', c', e, hc, hr⟩ := h
  refine ⟨A', c', e, hc, fun hn => ?_⟩
  obtain ⟨b, off, ea, hne, hlt, hcc⟩ := hr hn
  obtain ⟨b', off', ea', hne', _⟩ := hr1 hn
  rw [e] at e1
  injection e1 with e1
  rw [e1, ea'] at ea
  injection ea with ea
  injection ea with ea
  subst ea
  exact ⟨b', off, by rw [e1, ea']; simp_all, hne, Nat.lt_of_lt_of_le hlt hg.size, fun i hi => (World.cell?_of_block (hg.block b' hlt (fun e => hne' e.symm))).trans (hcc i hi)⟩
theorem OwnSs.box {W W' : World} {base : Nat} {v : Value} {ss : List By} (h : OwnSs W base v ss) {B : Nat} {A n c A2 n2 c2 l st} (hC : Cells W B 25 [.slice A n c, .slice A2 n2 c2, .int .i64 l, .bool st]) (hg : W.grownBy W' (some B)) : OwnSs W' base v ss := by
  obtain ⟨vs, hl, ho, hi⟩ := h
  refine ⟨vs, hl, World.ownsRow.kept ho hg ?_, fun i h h' => (hi i h h').box hC hg⟩
  rcases ho.2 with ⟨rfl, _⟩ | ⟨g, cap, cur, rfl, _, hg2, _⟩
  · exact .inl rfl
  · refine .inr (fun e => ?_)
    have e2 : g = B := by simpa [Value.ownBlock] using e
    subst e2
    rw [show W.heap[g]? = _ from hC] at hg2
    injection hg2 with hg2
    injection hg2 with _ ht
    exact absurd ht (by decide)
theorem OwnBytes.off {W : World} {base : Nat} {v : Value} {bs : By} (h : OwnBytes W base v bs) {g : Nat} (hg : g < base) : OffB (some g) W v bs := by
  obtain ⟨A, c, e, hc, hr, h1, h2⟩ := own_rowAt h
  refine ⟨A, c, e, hc, fun hn => ?_⟩
  have hn2 : bs.map encB ≠ [] := by simpa using hn
  obtain ⟨b, off, ea, hb, hcc⟩ := hr hn2
  obtain ⟨g', hg'⟩ := h2 hn2
  have e3 := h1 g' hg' hn2
  rw [e3] at ea
  injection ea with ea
  injection ea with e4 e5
  subst e4 e5
  have := h.lt' g' hg'
  refine ⟨g', 0, e3, by intro e; injection e with e; omega, hb, fun i hi => ?_⟩
  rw [hcc i (by simpa using hi)]; simp
theorem OwnBytes.splice {W : World} {base g n cap : Nat} {bs : By} (h : OwnBytes W base (.slice (some ⟨g, 0, none⟩) n cap) bs) : ∃ cur : List Value, W.heap[g]? = some (.cells cur.toArray 5 (0, 0)) ∧ n ≤ cur.length ∧
    ∀ (W' : World) (ys : By), ys.length ≤ n → W'.heap[g]? = some (.cells (Go.splice cur 0 (ys.map encB)).toArray 5 (0, 0)) → OwnBytes W' base (.slice (some ⟨g, 0, none⟩) n cap) (ys ++ bs.drop ys.length) := by
  obtain ⟨A0, c0, e0⟩ := own_slice h
  injection e0 with _ e0 _
  subst e0
  obtain ⟨h1, h2 | ⟨g', cap', cur, e, hb, hg, hle, hcm, hsz, ht⟩⟩ := h
  · have := h2.1; injection this with e; cases e
  · injection e with e1 e2 e3
    injection e1 with e1
    injection e1 with e1
    subst e1 e3
    refine ⟨cur.toList, by simpa using hg, by simp; omega, fun W' ys hy hW => ?_⟩
    have hlen : (ys ++ bs.drop ys.length).length = bs.length := by simp; omega
    unfold OwnBytes
    rw [hlen]
    refine ⟨by simp; omega, .inr ⟨g, cap, _, rfl, hb, hW, hle, hcm, ?_, ?_⟩⟩
    · rw [List.size_toArray, length_splice _ _ _ (by simp; omega)]; simpa using hsz
    · have e : cur.toList.take (bs.length * 1) = bs.map encB := ht
      rw [Nat.mul_one] at e
      simp only [Go.splice, List.take_zero, List.nil_append, Nat.zero_add, List.length_map, Nat.mul_one]
      rw [List.take_append]
      simp only [List.length_map, List.map_append]
      rw [List.take_of_length_le (by simp; omega), List.take_drop, show ys.length + (bs.length - ys.length) = bs.length by omega, e, List.map_drop] 
end
section
open Go.RowKit
set_option linter.unusedVariables false
set_option linter.unusedSimpArgs false
set_option maxRecDepth 20000

theorem OwnSs.cellq {W : World} {base g n c : Nat} {ss : List By} (h : OwnSs W base (.slice (some ⟨g, 0, none⟩) n c) ss) {k : Nat} {q : By} (hq : ss[k]? = some q) : ∃ A c', W.cell? ⟨g, k, none⟩ = some (.slice A q.length c') ∧ IsBytes W (.slice A q.length c') q := by
  obtain ⟨hk, rfl⟩ := List.getElem?_eq_some_iff.1 hq
  exact h.cell hk
theorem src_take {W : World} {A : Option Addr} {n c : Nat} {bs : By} (h : IsBytes W (.slice A n c) bs) (k : Nat) : 0 < ((bs.take k).map encB).length → ∃ ad, A = some ad ∧ ∀ j v, ((bs.take k).map encB)[j]? = some v → W.cell? (ad.add j) = some v := fun hp => by
  obtain ⟨ad, hA, hc⟩ := src_of h (by simp at hp ⊢; omega)
  refine ⟨ad, hA, fun j v hv => hc j v ?_⟩
  rw [List.map_take] at hv
  rw [List.getElem?_take] at hv
  split at hv
  · exact hv
  · cases hv
theorem keep4 {W : World} {B B' : Nat} {a0 a1 a2 a3 : Value} (h : Cells W B 25 [a0, a1, a2, a3]) (hne : B ≠ B') (b0 b1 b2 b3 : Value) :
    ((((W.setCell ⟨B', 0, none⟩ b0).setCell ⟨B', 1, none⟩ b1).setCell ⟨B', 2, none⟩ b2).setCell ⟨B', 3, none⟩ b3).cell? ⟨B, 0, none⟩ = some a0 ∧
    ((((W.setCell ⟨B', 0, none⟩ b0).setCell ⟨B', 1, none⟩ b1).setCell ⟨B', 2, none⟩ b2).setCell ⟨B', 3, none⟩ b3).cell? ⟨B, 1, none⟩ = some a1 ∧
    ((((W.setCell ⟨B', 0, none⟩ b0).setCell ⟨B', 1, none⟩ b1).setCell ⟨B', 2, none⟩ b2).setCell ⟨B', 3, none⟩ b3).cell? ⟨B, 2, none⟩ = some a2 := by
  have h9 := (((h.other hne 0 b0).other hne 1 b1).other hne 2 b2).other hne 3 b3
  exact ⟨h9.cell rfl, h9.cell rfl, h9.cell rfl⟩
theorem put_128 {ss : List By} {ps : List Wr} (h : ∀ q ∈ ss, q.length = 128) (h2 : ∀ p ∈ ps, p.data.length = 128) : ∀ q ∈ Dv.put ss ps, q.length = 128 := by
  induction ps generalizing ss with
  | nil => exact h
  | cons p ps ih =>
    show ∀ q ∈ Dv.put (Dv.put1 ss p) ps, q.length = 128
    refine ih (fun q hq => ?_) (fun q hq => h2 q (by simp [hq]))
    unfold Dv.put1 at hq
    rcases List.mem_or_eq_of_mem_set hq with h3 | h3
    · exact h q h3
    · rw [h3]; exact h2 p (by simp)

set_option maxHeartbeats 8000000 in
set_option maxRecDepth 100000 in
theorem Sync_any {d : Dk} {v : Value} {w : World} (hv : IsD w v d) :
    Calls Try.prog 27 #[v] w fun e w' => ∃ x, e = .returned (.tuple #[x, .int .i64 (Dv.syE d)]) ∧ IsD w' x (Dv.sy d) ∧ Below w.heap.size w w' ∧ Sec w.heap.size v x := by
  have HV := Lib.hid hv
  obtain ⟨A, c, A2, c2, rfl, h1, h2⟩ := hv.open_
  obtain ⟨ss, ps, left, st⟩ := d
  simp only at HV h1 h2 ⊢
  have hc2 : ps.length ≤ c2 := by obtain ⟨A', c', vs, e, hc, _⟩ := id h2; injection e with _ _ e; omega
  have H1 := Lib.hid h1
  have H2 := Lib.hid h2
  clear hv h1 h2
  obtain ⟨e0, he⟩ : ∃ e, Dv.syE ⟨ss, ps, left, st⟩ = e := ⟨_, rfl⟩
  obtain ⟨r0, hr⟩ : ∃ e, Dv.sy ⟨ss, ps, left, st⟩ = e := ⟨_, rfl⟩
  rw [he, hr]
  have HE := Lib.hid he
  have HR := Lib.hid hr
  clear he hr
  have HX := Lib.hid ((Cells.new w 25 [Value.slice A ss.length c, Value.slice A2 ps.length c2, Value.int IntKind.i64 left, Value.bool st]).upb (al1 _ (.cells #[.slice none 0 0, .slice none 0 0, .int .i64 0, .bool false] 25)))
  have HZ := Lib.hid (Cells.new (w.alloc (.cells [Value.slice A ss.length c, Value.slice A2 ps.length c2, Value.int IntKind.i64 left, Value.bool st].toArray 25)) 25 [.slice none 0 0, .slice none 0 0, .int .i64 0, .bool false])
  have HB := Lib.hid ((al1 w (.cells [Value.slice A ss.length c, Value.slice A2 ps.length c2, Value.int IntKind.i64 left, Value.bool st].toArray 25)).up (al1 _ (.cells #[.slice none 0 0, .slice none 0 0, .int .i64 0, .bool false] 25)))
  obtain ⟨rb, hrb⟩ : ∃ b, decide (Dv.Run ⟨ss, ps, left, st⟩) = b := ⟨_, rfl⟩
  have HC2 := Lib.hid hc2
  clear hc2
  go_enter Try.func27, Try.ntmps27
  go_wp2_with (fail)
  refine (runs_is (HV.out.upb HB.out) hrb).mono ?_
  rintro e w1 ⟨rfl, b1⟩
  have HX1 := Lib.hid (HX.out.upb b1)
  have HZ1 := Lib.hid (HZ.out.upb b1)
  have HB1 := Lib.hid (HB.out.up b1)
  clear b1 HX HZ HB
  simp only [World.size_alloc] at HZ1
  have hzw := HZ1.out.lt
  have z0 := HZ1.out.cell (k := 0) rfl
  have z1 := HZ1.out.cell (k := 1) rfl
  have z2 := HZ1.out.cell (k := 2) rfl
  have z3 := HZ1.out.cell (k := 3) rfl
  have f0 := HZ1.out.frozen 0
  have f1 := HZ1.out.frozen 1
  have f2 := HZ1.out.frozen 2
  have f3 := HZ1.out.frozen 3
  have hxw := HX1.out.lt
  have x0 := HX1.out.cell (k := 0) rfl
  have x1 := HX1.out.cell (k := 1) rfl
  have x2 := HX1.out.cell (k := 2) rfl
  have x3 := HX1.out.cell (k := 3) rfl
  cases rb with
  | false =>
    obtain rfl : e0 = 40 := by rw [← HE.out]; exact if_neg (of_decide_eq_false hrb)
    obtain rfl : r0 = d0 := by rw [← HR.out]; exact if_neg (of_decide_eq_false hrb)
    clear hrb
    go_wp2_with (fail)
    refine bodyPost_ret (dk_out rfl rfl rfl (HZ1.out.set4 (.slice none 0 0) (.slice none 0 0) (.int .i64 0) (.bool false))) rfl ?_
    exact ⟨_, rfl, IsD.zero, below_set4 HB1.out (by omega) _ _ _ _, sec_nil⟩
  | true =>
  have HRUN := Lib.hid (of_decide_eq_true hrb)
  clear hrb
  have HOK := Lib.hid (show ∀ k (h : k < ps.length), 0 ≤ ps[k].at_ ∧ ps[k].at_ < (ss.length : Int) ∧ ps[k].data.length = 128 from fun k h => HRUN.out.1.w h)
  have HLN := Lib.hid (show 1 ≤ ss.length ∧ ss.length ≤ 4096 ∧ ps.length ≤ 4096 from ⟨HRUN.out.1.n1, HRUN.out.1.n2, HRUN.out.1.p2⟩)
  have HS128 := Lib.hid (show ∀ (j : Nat), ∀ q ∈ Dv.put ss (ps.take j), q.length = 128 from fun j => put_128 (fun q hq => Dv.any_ss.1 HRUN.out.1.ss q hq) (fun q hq => (Dv.any_ps.1 HRUN.out.1.ps q (List.mem_of_mem_take hq)).2.2))
  by_cases hs : 0 ≤ left ∧ left < (ps.length : Int)
  · have dt1 : decide (0 ≤ left) = true := decide_eq_true hs.1
    have dt2 : decide (left < (ps.length : Int)) = true := decide_eq_true hs.2
    obtain ⟨k, rfl⟩ : ∃ k : Nat, left = k := ⟨left.toNat, by omega⟩
    have hk : k < ps.length := by omega
    obtain rfl : e0 = 40 := by rw [← HE.out]; unfold Dv.syE; rw [if_pos HRUN.out, if_pos (show Dv.Stops ⟨ss, ps, (k : Int), st⟩ from hs)]
    have HR2 := Lib.hid (show r0 = ⟨Dv.halfS ⟨ss, ps, k, st⟩ k, [], 0, true⟩ by rw [← HR.out]; unfold Dv.sy; rw [if_pos HRUN.out, if_pos (show Dv.Stops ⟨ss, ps, (k : Int), st⟩ from hs)]; rfl)
    have hkc : k ≤ c2 := by have := HC2.out; omega
    have hlt64 : ps.length ≤ 4096 := HLN.out.2.2
    clear hs
    go_wp2_with (fail)
    refine (perform_any (H1.out.upb HB1.out) ((ws_take (c' := k) H2.out (Nat.le_of_lt hk) (Nat.le_refl _)).upb HB1.out) (by have := HLN.out.1; omega) HLN.out.2.1 (by rw [List.length_take]; have := HLN.out.2.2; omega) (fun j hj => by rw [List.length_take] at hj; rw [List.getElem_take]; have := HOK.out j (by omega); exact ⟨this.1, this.2.1⟩)).mono ?_
    rintro e w2 ⟨x2v, rfl, ho2, b2⟩
    obtain ⟨g, cap, rfl, hg1, hg2⟩ := ho2.form (by rw [Dv.put_len]; exact HLN.out.1)
    rw [Dv.put_len] at ho2 ⊢
    obtain ⟨SS, hSS⟩ : ∃ SS, Dv.put ss (ps.take k) = SS := ⟨_, rfl⟩
    have HSL := Lib.hid (show SS.length = ss.length by rw [← hSS, Dv.put_len])
    have HSS := Lib.hid hSS
    rw [hSS] at ho2
    clear hSS hzw z0 z1 z2 z3 f0 f1 f2 f3 hxw x0 x1 x2 x3
    have HX2 := Lib.hid (HX1.out.upb b2)
    have HZ2 := Lib.hid (HZ1.out.upb b2)
    have HB2 := Lib.hid (HB1.out.up b2)
    have HO2 := Lib.hid ho2
    clear ho2
    have hzw := HZ2.out.lt
    have z0 := HZ2.out.cell (k := 0) rfl
    have z1 := HZ2.out.cell (k := 1) rfl
    have z2 := HZ2.out.cell (k := 2) rfl
    have z3 := HZ2.out.cell (k := 3) rfl
    have f0 := HZ2.out.frozen 0
    have f1 := HZ2.out.frozen 1
    have f2 := HZ2.out.frozen 2
    have f3 := HZ2.out.frozen 3
    have hxw := HX2.out.lt
    have x0 := HX2.out.cell (k := 0) rfl
    have x1 := HX2.out.cell (k := 1) rfl
    have x2 := HX2.out.cell (k := 2) rfl
    have x3 := HX2.out.cell (k := 3) rfl
    obtain ⟨b, off, A', c', rfl, hbb, hc1, hc2', hc3⟩ := ws_at H2.out hk
    have h1 : w2.cell? ⟨b, off + k * 2, none⟩ = some (.int .i64 ps[k].at_) := by rw [(bcell HB2.out).1 b _ hbb, hc1]
    have h2 : w2.cell? ⟨b, off + k * 2 + 1, none⟩ = some (.slice A' ps[k].data.length c') := by rw [(bcell HB2.out).1 b _ hbb, hc2']
    have hb2lt : b < w2.heap.size := Nat.lt_of_lt_of_le hbb HB2.out.size
    have H3 := Lib.hid hc3
    have hr3 := HOK.out k hk
    have HPS := Lib.hid (show ps[k]? = some ps[k] from List.getElem?_eq_getElem hk)
    clear hc1 hc2' hc3
    generalize ps[k] = p at *
    obtain ⟨at0, data⟩ := p
    simp only at h1 h2 H3 HPS hr3
    obtain ⟨m, rfl⟩ : ∃ m : Nat, at0 = m := ⟨at0.toNat, by omega⟩
    have hmn : m < ss.length := by omega
    have hdl : data.length = 128 := hr3.2.2
    have hml : m < SS.length := by rw [HSL.out]; exact hmn
    have HSM := Lib.hid hml
    obtain ⟨OB, hOB⟩ : ∃ OB, SS[m]? = some OB := ⟨_, List.getElem?_eq_getElem hml⟩
    have hs128 : OB.length = 128 := HS128.out k _ (by rw [HSS.out]; exact List.mem_of_getElem? hOB)
    have HOB := Lib.hid hOB
    obtain ⟨A5, c5, hcc, hcb⟩ := HO2.out.cellq hOB
    rw [hs128] at hcc hcb
    rw [hdl] at h2 H3
    have HCB := Lib.hid hcb
    have HL128 := Lib.hid (And.intro hs128 hdl)
    have hgB : w.heap.size + 1 ≠ g := by have := HZ2.out.lt; have := HZ1.out.lt; omega
    have hgw := hg2
    clear hcb hr3 hOB hs128 hdl
    have HZ3 := Lib.hid (HZ2.out.set4 (.slice (some ⟨g, 0, none⟩) ss.length cap) (.slice none 0 0) (.int .i64 0) (.bool true))
    have HO3 := Lib.hid (HO2.out.box HZ2.out (grown_set4 w2 (w.heap.size + 1) (.slice (some ⟨g, 0, none⟩) ss.length cap) (.slice none 0 0) (.int .i64 0) (.bool true)))
    have HC3 := Lib.hid (HCB.out.box HZ2.out (grown_set4 w2 (w.heap.size + 1) (.slice (some ⟨g, 0, none⟩) ss.length cap) (.slice none 0 0) (.int .i64 0) (.bool true)))
    have HB3 := Lib.hid (below_set4 HB2.out (show w.heap.size ≤ w.heap.size + 1 by omega) (.slice (some ⟨g, 0, none⟩) ss.length cap) (.slice none 0 0) (.int .i64 0) (.bool true))
    have hsz3 : (set4 w2 (w.heap.size + 1) (.slice (some ⟨g, 0, none⟩) ss.length cap) (.slice none 0 0) (.int .i64 0) (.bool true)).heap.size = w2.heap.size := by simp [set4]
    go_wp2_with (fail)
    clear hzw z0 z1 z2 z3 f0 f1 f2 f3 hxw x0 x1 x2 x3 h1 h2 hcc HX2
    obtain ⟨W3, hW3⟩ : ∃ W3, set4 w2 (w.heap.size + 1) (.slice (some ⟨g, 0, none⟩) ss.length cap) (.slice none 0 0) (.int .i64 0) (.bool true) = W3 := ⟨_, rfl⟩
    rw [hW3] at HZ3 HO3 HC3 HB3 hsz3
    unfold set4 at hW3
    rw [hW3]
    clear hW3
    have HK3 := Lib.hid (Cells.new W3 76 [.int .i64 m, .slice A' 128 c'])
    rw [hsz3] at HK3
    obtain ⟨W4, hW4⟩ : ∃ W4, W3.alloc (.cells #[.int .i64 m, .slice A' 128 c'] 76) = W4 := ⟨_, rfl⟩
    have HAL := Lib.hid (show Below W3.heap.size W3 W4 by rw [← hW4]; exact al1 _ _)
    have hsz4 : W4.heap.size = w2.heap.size + 1 := by rw [← hW4, World.size_alloc, hsz3]
    have HK4 := Lib.hid (show Cells W4 w2.heap.size 76 [.int .i64 m, .slice A' 128 c'] by rw [← hW4]; exact HK3.out)
    rw [hW4]
    clear hW4 HK3
    refine (cloneB_any (HC3.out.upb HAL.out) (by have := HL128.out.1; omega)).mono ?_
    rintro e w5 ⟨t5, rfl, ho5, b5⟩
    obtain ⟨h, caph, rfl, hh1, hh2⟩ := own_form ho5 (by have := HL128.out.1; omega)
    rw [HL128.out.1] at ho5 ⊢
    obtain ⟨cur, hcur1, hcur2, hcur3⟩ := OwnBytes.splice ho5
    have HCUR := Lib.hid hcur1
    have HCUR2 := Lib.hid hcur2
    have HCUR3 := Lib.hid hcur3
    have HK5 := Lib.hid (HK4.out.upb b5)
    have HB5 := Lib.hid b5
    have k0 := HK5.out.cell (k := 0) rfl
    have k1 := HK5.out.cell (k := 1) rfl
    have hk5 := HK5.out.lt
    have HCS := Lib.hid (show ((data.take 64).map encB).length = Nat.min 128 64 by rw [List.length_map, List.length_take, HL128.out.2]; rfl)
    have HCS2 := Lib.hid (show 0 + ((data.take 64).map encB).length ≤ cur.length by rw [HCS.out]; exact Nat.le_trans (by decide) HCUR2.out)
    have HCS3 := Lib.hid (show ∀ v ∈ (data.take 64).map encB, v.oneCell' = true by intro v hv; simp only [List.mem_map] at hv; obtain ⟨y, _, rfl⟩ := hv; rfl)
    have HSRC := Lib.hid (src_take (H3.out.upb ((HB3.out.up HAL.out).up b5)) 64)
    have hhn : caph ≥ 128 := by obtain ⟨A0, c0, e0, hle⟩ := own_le ho5; injection e0 with _ _ e0; omega
    have hc64 : 64 ≤ caph := by omega
    have hc64i : (64 : Int) ≤ (caph : Int) := by omega
    clear hcur1 hcur2 hcur3 b5 ho5
    go_wp2_with (fail)
    go_region_law (refine step_copy_splice rfl (.tmp 50) (.tmp 52) 35 35 rfl 5 Try.underlying35 (by kernel_rfl) (some ⟨h, 0, none⟩) A' 64 caph 128 c' (by simp [Act.eval, Act.put]) (by simp [Act.eval, Act.put]) h 0 cur 5 HCUR.out ((data.take 64).map encB) HCS.out (fun hp => ⟨rfl, HSRC.out hp⟩) HCS2.out HCS3.out h w5 (below_drewN (below_drop w5 (Nat.le_of_lt hh2)) 1) (Nat.le_refl _) ?_; intro w6 hg6 hb6)
    all_goals
      have HT6 := Lib.hid (HCUR3.out w6 (data.take 64) (by rw [List.length_take]; omega) hg6.out)
      have hlen64 : (data.take 64).length = 64 := by rw [List.length_take, HL128.out.2]; rfl
      rw [hlen64] at HT6
      have hb46 : Below W4.heap.size W4 w6 := HB5.out.trans (hb6.mono hh1)
      have HO6 := Lib.hid ((HO3.out.below HAL.out).below hb46)
      have HZ6 := Lib.hid ((HZ3.out.upb HAL.out).upb hb46)
      have HK6 := Lib.hid (HK4.out.upb hb46)
      have HB6 := Lib.hid ((HB3.out.up HAL.out).up hb46)
      clear hg6 hb6 hb46 k0 k1 hk5 hlen64
      have k0 := HK6.out.cell (k := 0) rfl
      have k1 := HK6.out.cell (k := 1) rfl
      have hk6 := HK6.out.lt
      have hzw := HZ6.out.lt
      have z0 := HZ6.out.cell (k := 0) rfl
      have z1 := HZ6.out.cell (k := 1) rfl
      have z2 := HZ6.out.cell (k := 2) rfl
      have z3 := HZ6.out.cell (k := 3) rfl
      have f0 := HZ6.out.frozen 0
      have f1 := HZ6.out.frozen 1
      have f2 := HZ6.out.frozen 2
      have f3 := HZ6.out.frozen 3
      obtain ⟨A9, c9, hcc, _⟩ := HO6.out.cellq HOB.out
      have hfr := HO6.out.frozen m
      have hgB2 : g ≠ w.heap.size + 1 := fun e => hgB e.symm
      go_wp2_with (fail)
      have HTOFF := HT6.out.off (g := g) (by omega)
      have HO7 := (HO6.out.set m HTOFF).box (HZ6.out.other hgB m (.slice (some ⟨h, 0, none⟩) 128 caph)) (grown_set4 _ (w.heap.size + 1) (.slice (some ⟨g, 0, none⟩) ss.length cap) (.slice none 0 0) (.int .i64 0) (.bool true))
      have HZ7 := (HZ6.out.other hgB m (.slice (some ⟨h, 0, none⟩) 128 caph)).set4 (.slice (some ⟨g, 0, none⟩) ss.length cap) (.slice none 0 0) (.int .i64 0) (.bool true)
      have hb := below_set4 (HB6.out.setCell (p := ⟨g, m, none⟩) (by show w.heap.size ≤ g; have := HB1.out.size; omega) (.slice (some ⟨h, 0, none⟩) 128 caph)) (show w.heap.size ≤ w.heap.size + 1 by omega) (.slice (some ⟨g, 0, none⟩) ss.length cap) (.slice none 0 0) (.int .i64 0) (.bool true)
      refine bodyPost_ret (dk_out rfl rfl rfl HZ7) rfl ?_
      refine ⟨_, rfl, ?_, hb, sec_ge (by have := HB1.out.size; omega)⟩
      have hfin : r0 = ⟨SS.set m (data.take 64 ++ OB.drop 64), [], 0, true⟩ := by
        rw [HR2.out]
        have h9 := HOB.out
        rw [← HSS.out] at h9 ⊢
        simp only [Dv.halfS, HPS.out, Int.toNat_natCast, List.getD_eq_getElem?_getD, h9, Option.getD_some]
        rfl
      rw [hfin]
      exact isD_mk HO7.is IsWs.nil
  · have hns : ¬ Dv.Stops ⟨ss, ps, left, st⟩ := hs
    obtain rfl : e0 = 0 := by rw [← HE.out]; unfold Dv.syE; rw [if_pos HRUN.out, if_neg hns]
    have HR1 := Lib.hid (show r0 = ⟨Dv.put ss ps, [], if 0 ≤ left then left - ps.length else left, false⟩ by rw [← HR.out]; unfold Dv.sy; rw [if_pos HRUN.out, if_neg hns])
    have hl2 := HRUN.out.1.l2
    simp only at hl2
    clear hns
    by_cases h0 : 0 ≤ left
    · have dt1 : decide (0 ≤ left) = true := decide_eq_true h0
      have dt2 : decide (left < (ps.length : Int)) = false := decide_eq_false (by omega)
      have HR2 := Lib.hid (show r0 = ⟨Dv.put ss ps, [], left - ps.length, false⟩ by rw [HR1.out, if_pos h0])
      have hw64 : IntKind.i64.wrap (left - (ps.length : Int)) = left - (ps.length : Int) := by rw [IntKind.wrap_i64]; have := HLN.out.2.2; omega
      have hw65 : (0 : Int) ≤ left - (ps.length : Int) := by omega
      have hw66 : left - (ps.length : Int) ≤ 65536 := by omega
      clear hs
      go_wp2_with (fail)
      have HD9 := Lib.hid (show w1.drew.cell? ⟨w.heap.size, 0, none⟩ = some (.slice A ss.length c) ∧ w1.drew.cell? ⟨w.heap.size, 1, none⟩ = some (.slice A2 ps.length c2) ∧ w1.drew.cell? ⟨w.heap.size, 2, none⟩ = some (.int .i64 left) from ⟨x0, x1, x2⟩)
      go_region_held3 (fun X => X.cell? ⟨w.heap.size, 0, none⟩ = some (.slice A ss.length c) ∧ X.cell? ⟨w.heap.size, 1, none⟩ = some (.slice A2 ps.length c2) ∧ X.cell? ⟨w.heap.size, 2, none⟩ = some (.int .i64 left)) (first | with_reducible exact HD9.out | with_reducible exact ⟨x0, x1, x2⟩ | with_reducible exact ⟨y0, y1, y2⟩ | with_reducible exact HV9.out)
      (first
      | (go_at_call 54
         refine (perform_any (H1.out.upb (show Below w.heap.size w w1.drew from below_drewN HB1.out 1)) (H2.out.upb (show Below w.heap.size w w1.drew from below_drewN HB1.out 1)) (by have := HLN.out.1; omega) HLN.out.2.1 HLN.out.2.2 (fun j hj => by have := HOK.out j hj; exact ⟨this.1, this.2.1⟩)).mono ?_
         rintro e X1 ⟨xv, rfl, ho2, b2⟩
         obtain ⟨g, cap, rfl, hg1, hg2⟩ := ho2.form (by rw [Dv.put_len]; exact HLN.out.1)
         rw [Dv.put_len] at ho2 ⊢
         have HO2 := Lib.hid ho2
         have HX2 := Lib.hid ((show Cells w1.drew w.heap.size 25 _ from HX1.out).upb b2)
         have HZ2 := Lib.hid ((show Cells w1.drew (w.heap.size + 1) 25 _ from HZ1.out).upb b2)
         have HB2 := Lib.hid ((show Below w.heap.size w w1.drew from below_drewN HB1.out 1).up b2)
         clear ho2 hg1
         have hzw2 := HZ2.out.lt
         have z02 := HZ2.out.cell (k := 0) rfl
         have z12 := HZ2.out.cell (k := 1) rfl
         have z22 := HZ2.out.cell (k := 2) rfl
         have z32 := HZ2.out.cell (k := 3) rfl
         have f02 := HZ2.out.frozen 0
         have f12 := HZ2.out.frozen 1
         have f22 := HZ2.out.frozen 2
         have f32 := HZ2.out.frozen 3
         have y0 := HX2.out.cell (k := 0) rfl
         have y1 := HX2.out.cell (k := 1) rfl
         have y2 := HX2.out.cell (k := 2) rfl
         have HV9 := Lib.hid (keep4 HX2.out (show w.heap.size ≠ w.heap.size + 1 by omega) (.slice (some ⟨g, 0, none⟩) ss.length cap) (.slice none 0 0) (.int .i64 left) (.bool false))))
      all_goals
        clear hzw z0 z1 z2 z3 f0 f1 f2 f3 hxw x0 x1 x2 x3 HV9 HD9 y0 y1 y2 hzw2 z02 z12 z22 z32 f02 f12 f22 f32
        have HZ6 := Lib.hid (HZ2.out.set4 (.slice (some ⟨g, 0, none⟩) ss.length cap) (.slice none 0 0) (.int .i64 left) (.bool false))
        have HO3 := Lib.hid (HO2.out.box HZ2.out (grown_set4 X1 (w.heap.size + 1) (.slice (some ⟨g, 0, none⟩) ss.length cap) (.slice none 0 0) (.int .i64 left) (.bool false)))
        have HB3 := Lib.hid (below_set4 HB2.out (show w.heap.size ≤ w.heap.size + 1 by omega) (.slice (some ⟨g, 0, none⟩) ss.length cap) (.slice none 0 0) (.int .i64 left) (.bool false))
        obtain ⟨X3, hX3⟩ : ∃ X3, set4 X1 (w.heap.size + 1) (.slice (some ⟨g, 0, none⟩) ss.length cap) (.slice none 0 0) (.int .i64 left) (.bool false) = X3 := ⟨_, rfl⟩
        rw [hX3] at HZ6 HO3 HB3
        unfold set4 at hX3
        rw [hX3]
        clear hX3
        have hzw := HZ6.out.lt
        have z0 := HZ6.out.cell (k := 0) rfl
        have z1 := HZ6.out.cell (k := 1) rfl
        have z2 := HZ6.out.cell (k := 2) rfl
        have z3 := HZ6.out.cell (k := 3) rfl
        have f0 := HZ6.out.frozen 0
        have f1 := HZ6.out.frozen 1
        have f2 := HZ6.out.frozen 2
        have f3 := HZ6.out.frozen 3
        go_wp2_with (fail)
        have HO4 := HO3.out.box HZ6.out (grown_set _ (w.heap.size + 1) 2 (.int .i64 (left - ps.length)))
        have HZ7 := (HZ6.out.set (k := 2) (.int .i64 (left - ps.length)))
        have HB4 := HB3.out.setCell (p := ⟨w.heap.size + 1, 2, none⟩) (by show w.heap.size ≤ w.heap.size + 1; omega) (.int .i64 (left - ps.length))
        have HO5 := HO4.box HZ7 (grown_set4 _ (w.heap.size + 1) (.slice (some ⟨g, 0, none⟩) ss.length cap) (.slice none 0 0) (.int .i64 (left - ps.length)) (.bool false))
        have HZ8 := HZ7.set4 (.slice (some ⟨g, 0, none⟩) ss.length cap) (.slice none 0 0) (.int .i64 (left - ps.length)) (.bool false)
        have HB5 := below_set4 HB4 (show w.heap.size ≤ w.heap.size + 1 by omega) (.slice (some ⟨g, 0, none⟩) ss.length cap) (.slice none 0 0) (.int .i64 (left - ps.length)) (.bool false)
        refine bodyPost_ret (dk_out rfl rfl rfl HZ8) rfl ?_
        exact ⟨_, rfl, by rw [HR2.out]; exact isD_mk HO5.is IsWs.nil, HB5, sec_ge (by have h9 : w1.heap.size ≤ g := HO2.out.lt' g rfl; have := HB1.out.size; omega)⟩
    · have dt1 : decide (0 ≤ left) = false := decide_eq_false h0
      have HR2 := Lib.hid (show r0 = ⟨Dv.put ss ps, [], left, false⟩ by rw [HR1.out, if_neg h0])
      clear hs
      go_wp2_with (fail)
      have HD9 := Lib.hid (show w1.drew.cell? ⟨w.heap.size, 0, none⟩ = some (.slice A ss.length c) ∧ w1.drew.cell? ⟨w.heap.size, 1, none⟩ = some (.slice A2 ps.length c2) ∧ w1.drew.cell? ⟨w.heap.size, 2, none⟩ = some (.int .i64 left) from ⟨x0, x1, x2⟩)
      go_region_held3 (fun X => X.cell? ⟨w.heap.size, 0, none⟩ = some (.slice A ss.length c) ∧ X.cell? ⟨w.heap.size, 1, none⟩ = some (.slice A2 ps.length c2) ∧ X.cell? ⟨w.heap.size, 2, none⟩ = some (.int .i64 left)) (first | with_reducible exact HD9.out | with_reducible exact ⟨x0, x1, x2⟩ | with_reducible exact ⟨y0, y1, y2⟩ | with_reducible exact HV9.out)
      (first
      | (go_at_call 54
         refine (perform_any (H1.out.upb (show Below w.heap.size w w1.drew from below_drewN HB1.out 1)) (H2.out.upb (show Below w.heap.size w w1.drew from below_drewN HB1.out 1)) (by have := HLN.out.1; omega) HLN.out.2.1 HLN.out.2.2 (fun j hj => by have := HOK.out j hj; exact ⟨this.1, this.2.1⟩)).mono ?_
         rintro e X1 ⟨xv, rfl, ho2, b2⟩
         obtain ⟨g, cap, rfl, hg1, hg2⟩ := ho2.form (by rw [Dv.put_len]; exact HLN.out.1)
         rw [Dv.put_len] at ho2 ⊢
         have HO2 := Lib.hid ho2
         have HX2 := Lib.hid ((show Cells w1.drew w.heap.size 25 _ from HX1.out).upb b2)
         have HZ2 := Lib.hid ((show Cells w1.drew (w.heap.size + 1) 25 _ from HZ1.out).upb b2)
         have HB2 := Lib.hid ((show Below w.heap.size w w1.drew from below_drewN HB1.out 1).up b2)
         clear ho2 hg1
         have hzw2 := HZ2.out.lt
         have z02 := HZ2.out.cell (k := 0) rfl
         have z12 := HZ2.out.cell (k := 1) rfl
         have z22 := HZ2.out.cell (k := 2) rfl
         have z32 := HZ2.out.cell (k := 3) rfl
         have f02 := HZ2.out.frozen 0
         have f12 := HZ2.out.frozen 1
         have f22 := HZ2.out.frozen 2
         have f32 := HZ2.out.frozen 3
         have y0 := HX2.out.cell (k := 0) rfl
         have y1 := HX2.out.cell (k := 1) rfl
         have y2 := HX2.out.cell (k := 2) rfl
         have HV9 := Lib.hid (keep4 HX2.out (show w.heap.size ≠ w.heap.size + 1 by omega) (.slice (some ⟨g, 0, none⟩) ss.length cap) (.slice none 0 0) (.int .i64 left) (.bool false))))
      all_goals
        clear hzw z0 z1 z2 z3 f0 f1 f2 f3 hxw x0 x1 x2 x3 HV9 HD9 y0 y1 y2 hzw2 z02 z12 z22 z32 f02 f12 f22 f32
        have HZ6 := Lib.hid (HZ2.out.set4 (.slice (some ⟨g, 0, none⟩) ss.length cap) (.slice none 0 0) (.int .i64 left) (.bool false))
        have HO3 := Lib.hid (HO2.out.box HZ2.out (grown_set4 X1 (w.heap.size + 1) (.slice (some ⟨g, 0, none⟩) ss.length cap) (.slice none 0 0) (.int .i64 left) (.bool false)))
        have HB3 := Lib.hid (below_set4 HB2.out (show w.heap.size ≤ w.heap.size + 1 by omega) (.slice (some ⟨g, 0, none⟩) ss.length cap) (.slice none 0 0) (.int .i64 left) (.bool false))
        obtain ⟨X3, hX3⟩ : ∃ X3, set4 X1 (w.heap.size + 1) (.slice (some ⟨g, 0, none⟩) ss.length cap) (.slice none 0 0) (.int .i64 left) (.bool false) = X3 := ⟨_, rfl⟩
        rw [hX3] at HZ6 HO3 HB3
        unfold set4 at hX3
        rw [hX3]
        clear hX3
        have hzw := HZ6.out.lt
        have z0 := HZ6.out.cell (k := 0) rfl
        have z1 := HZ6.out.cell (k := 1) rfl
        have z2 := HZ6.out.cell (k := 2) rfl
        have z3 := HZ6.out.cell (k := 3) rfl
        have f0 := HZ6.out.frozen 0
        have f1 := HZ6.out.frozen 1
        have f2 := HZ6.out.frozen 2
        have f3 := HZ6.out.frozen 3
        go_wp2_with (fail)
        have HO5 := HO3.out.box HZ6.out (grown_set4 _ (w.heap.size + 1) (.slice (some ⟨g, 0, none⟩) ss.length cap) (.slice none 0 0) (.int .i64 left) (.bool false))
        have HZ8 := HZ6.out.set4 (.slice (some ⟨g, 0, none⟩) ss.length cap) (.slice none 0 0) (.int .i64 left) (.bool false)
        have HB5 := below_set4 HB3.out (show w.heap.size ≤ w.heap.size + 1 by omega) (.slice (some ⟨g, 0, none⟩) ss.length cap) (.slice none 0 0) (.int .i64 left) (.bool false)
        refine bodyPost_ret (dk_out rfl rfl rfl HZ8) rfl ?_
        exact ⟨_, rfl, by rw [HR2.out]; exact isD_mk HO5.is IsWs.nil, HB5, sec_ge (by have h9 : w1.heap.size ≤ g := HO2.out.lt' g rfl; have := HB1.out.size; omega)⟩
end
end Go.Proofs.Ytkcnanclpkongaa

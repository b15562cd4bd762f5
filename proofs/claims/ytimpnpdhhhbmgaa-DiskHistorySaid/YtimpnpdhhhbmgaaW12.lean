/- Walk of Write. -/
import Derived.Test.YtimpnpdhhhbmgaaW11
namespace Go.Proofs.Ytimpnpdhhhbmgaa
open Go.RowKit
set_option linter.unusedVariables false
set_option linter.unusedSimpArgs false

theorem below_drop (w : World) {n : Nat} (h : n ≤ w.heap.size) : Below n w w := (Below.refl n w)
theorem src_of {W : World} {A : Option Addr} {n c : Nat} {bs : By} (h : IsBytes W (.slice A n c) bs) : 0 < (bs.map encB).length → ∃ ad, A = some ad ∧ ∀ j v, (bs.map encB)[j]? = some v → W.cell? (ad.add j) = some v := fun hp => by
  obtain ⟨A', c', e, _, hr⟩ := h
  injection e with e
  subst e
  cases A with
  | none =>
    obtain ⟨b, off, e, _⟩ := hr (by intro h; rw [h] at hp; simp at hp)
    cases e
  | some ad => exact ⟨ad, rfl, rowAt_cells hr⟩

theorem Cells.under {W W' : World} {n B : Nat} {t : TypeId} {cs : List Value} (h : Cells W B t cs) (hb : Below n W W') (hB : B < n) : Cells W' B t cs := (hb.block B hB).trans h
theorem pad_len' {b : By} (h : b.length ≤ 128) : (Dv.pad b).length = 128 := Dv.pad_len h

theorem grown_set (W : World) (B k : Nat) (u : Value) : W.grownBy (W.setCell ⟨B, k, none⟩ u) (some B) := ⟨rfl, rfl, rfl, by simp [World.setCell], fun b hb hne => Below.heap_setCell W ⟨B, k, none⟩ u b (fun e => hne (by rw [e]))⟩
theorem grown_trans {X Y Z : World} {o : Option Nat} (h : X.grownBy Y o) (k : Y.grownBy Z o) : X.grownBy Z o :=
  ⟨k.os.trans h.os, k.tape.trans h.tape, k.output.trans h.output, Nat.le_trans h.size k.size, fun b hb hne => (k.block b (Nat.lt_of_lt_of_le hb h.size) hne).trans (h.block b hb hne)⟩
theorem grown_set4 (W : World) (B : Nat) (b0 b1 b2 b3 : Value) : W.grownBy (set4 W B b0 b1 b2 b3) (some B) :=
  grown_trans (grown_trans (grown_trans (grown_set _ _ _ _) (grown_set _ _ _ _)) (grown_set _ _ _ _)) (grown_set _ _ _ _)
/-- bytes do not lie in the box of a disk -/
theorem IsBytes.offBox {W : World} {v : Value} {bs : By} (h : IsBytes W v bs) {B : Nat} {A n c A2 n2 c2 l st} (hC : Cells W B 25 [.slice A n c, .slice A2 n2 c2, .int .i64 l, .bool st]) : OffB (some B) W v bs := by
  obtain ⟨A', c', e, hc, hr⟩ := h
  refine ⟨A', c', e, hc, fun hn => ?_⟩
  obtain ⟨b, off, e1, hb, hcc⟩ := hr (by intro h0; simp at h0; exact hn h0)
  refine ⟨b, off, e1, fun e2 => ?_, hb, fun i hi => by rw [hcc i (by simpa using hi)]; simp⟩
  injection e2 with e2
  subst e2
  have h0 := hcc 0 (by simp; exact List.length_pos_iff.2 hn)
  rw [cell_of_row W B _ _ 25 (0, 0) hC] at h0
  match off with
  | 0 => simp [encB] at h0
  | 1 => simp [encB] at h0
  | 2 => simp [encB] at h0
  | 3 => simp [encB] at h0
  | n + 4 => simp at h0
theorem IsBytes.box {W W' : World} {v : Value} {bs : By} (h : IsBytes W v bs) {B : Nat} {A n c A2 n2 c2 l st} (hC : Cells W B 25 [.slice A n c, .slice A2 n2 c2, .int .i64 l, .bool st]) (hg : W.grownBy W' (some B)) : IsBytes W' v bs :=
  ((h.offBox hC).grown hg).bytes
theorem IsWs.box {W W' : World} {v : Value} {ps : List Wr} (h : IsWs W v ps) {B : Nat} {A n c A2 n2 c2 l st} (hC : Cells W B 25 [.slice A n c, .slice A2 n2 c2, .int .i64 l, .bool st]) (hg : W.grownBy W' (some B)) : IsWs W' v ps := by
  obtain ⟨A', c', vs, e, hc, hl, hr, hi⟩ := h
  refine ⟨A', c', vs, e, hc, hl, fun hn => ?_, fun i h h' => (hi i h h').box hC hg⟩
  obtain ⟨b, off, e1, hb, hcc⟩ := hr hn
  refine ⟨b, off, e1, Nat.lt_of_lt_of_le hb hg.size, fun i hx => ?_⟩
  rw [← hcc i hx]
  refine World.cell?_of_block (hg.block b hb (fun e2 => ?_))
  injection e2 with e2
  subst e2
  cases ps with
  | nil => exact hn (by simp [rowW])
  | cons p ps =>
    cases vs with
    | nil => exact hn (by simp [rowW])
    | cons u us =>
      have h0 := hcc 0 (by simp [rowW])
      have h1 := hcc 1 (by simp [rowW])
      simp only [rowW, List.getElem_cons_zero, List.getElem_cons_succ] at h0 h1
      have hu := hi 0 (by simp) (by simp)
      simp only [List.getElem_cons_zero] at hu
      obtain ⟨A9, c9, e9, _⟩ := hu
      subst e9
      rw [cell_of_row W b _ _ 25 (0, 0) hC] at h0 h1
      match off with
      | 0 => simp at h0
      | 1 => simp at h0
      | 2 => simp at h1
      | 3 => simp at h0
      | n + 4 => simp at h0

set_option maxHeartbeats 8000000 in
theorem Write_any {d : Dk} {v u : Value} {b : By} {w : World} (hv : IsD w v d) (at0 : Int) (hu : IsBytes w u b) :
    Calls Try.prog 19 #[v, .int .i64 at0, u] w fun e w' => ∃ x, e = .returned (.tuple #[x, .int .i64 (Dv.wrE d at0 b)]) ∧ IsD w' x (Dv.wr d at0 b) ∧ Below w.heap.size w w' ∧ Sec w.heap.size v x := by
  have HV := Lib.hid hv
  have HU := Lib.hid hu
  obtain ⟨A, c, A2, c2, rfl, h1, h2⟩ := hv.open_
  obtain ⟨A6, c6, rfl, _⟩ := id hu
  obtain ⟨ss, ps, left, st⟩ := d
  simp only at HV h1 h2 ⊢
  have H1 := Lib.hid h1
  have H2 := Lib.hid h2
  clear hv h1 h2 hu
  obtain ⟨e0, he⟩ : ∃ e, Dv.wrE ⟨ss, ps, left, st⟩ at0 b = e := ⟨_, rfl⟩
  obtain ⟨r0, hr⟩ : ∃ e, Dv.wr ⟨ss, ps, left, st⟩ at0 b = e := ⟨_, rfl⟩
  rw [he, hr]
  have HE := Lib.hid he
  have HR := Lib.hid hr
  clear he hr
  have HBAD := Lib.hid (show ¬ (Dv.Run ⟨ss, ps, left, st⟩ ∧ Dv.Has ⟨ss, ps, left, st⟩ at0) → e0 = 40 ∧ r0 = d0 from fun h => ⟨by rw [← HE.out]; exact if_neg h, by rw [← HR.out]; exact if_neg h⟩)
  have HX := Lib.hid ((Cells.new w 25 [Value.slice A ss.length c, Value.slice A2 ps.length c2, Value.int IntKind.i64 left, Value.bool st]).upb (al1 _ (.cells #[.slice none 0 0, .slice none 0 0, .int .i64 0, .bool false] 25)))
  have HZ := Lib.hid (Cells.new (w.alloc (.cells [Value.slice A ss.length c, Value.slice A2 ps.length c2, Value.int IntKind.i64 left, Value.bool st].toArray 25)) 25 [.slice none 0 0, .slice none 0 0, .int .i64 0, .bool false])
  have HB := Lib.hid ((al1 w (.cells [Value.slice A ss.length c, Value.slice A2 ps.length c2, Value.int IntKind.i64 left, Value.bool st].toArray 25)).up (al1 _ (.cells #[.slice none 0 0, .slice none 0 0, .int .i64 0, .bool false] 25)))
  obtain ⟨rb, hrb⟩ : ∃ b, decide (Dv.Run ⟨ss, ps, left, st⟩) = b := ⟨_, rfl⟩
  go_enter Try.func19, Try.ntmps19
  go_wp2_with (fail)
  refine (runs_is (HV.out.upb HB.out) hrb).mono ?_
  rintro e w1 ⟨rfl, b1⟩
  have HX1 := Lib.hid (HX.out.upb b1)
  have HZ1 := Lib.hid (HZ.out.upb b1)
  have HB1 := Lib.hid (HB.out.up b1)
  clear b1 HX HZ HB
  simp only [World.size_alloc] at HZ1
  have hzw := HZ1.out.lt
  have z0 := HZ1.out.cell (k := 0) rfl
  have z1 := HZ1.out.cell (k := 1) rfl
  have z2 := HZ1.out.cell (k := 2) rfl
  have z3 := HZ1.out.cell (k := 3) rfl
  have f0 := HZ1.out.frozen 0
  have f1 := HZ1.out.frozen 1
  have f2 := HZ1.out.frozen 2
  have f3 := HZ1.out.frozen 3
  have x0 := HX1.out.cell (k := 0) rfl
  have x1 := HX1.out.cell (k := 1) rfl
  have x2 := HX1.out.cell (k := 2) rfl
  have x3 := HX1.out.cell (k := 3) rfl
  have g1 := HX1.out.frozen 1
  cases rb with
  | false =>
    obtain ⟨rfl, rfl⟩ := HBAD.out (fun h => of_decide_eq_false hrb h.1)
    clear hrb
    go_wp2_with (fail)
    refine bodyPost_ret (dk_out rfl rfl rfl (HZ1.out.set4 (.slice none 0 0) (.slice none 0 0) (.int .i64 0) (.bool false))) rfl ?_
    exact ⟨_, rfl, IsD.zero, below_set4 HB1.out (by omega) _ _ _ _, sec_nil⟩
  | true =>
  have HRUN := Lib.hid (of_decide_eq_true hrb)
  clear hrb
  obtain ⟨rb, hrb⟩ : ∃ b, decide (Dv.Has ⟨ss, ps, left, st⟩ at0) = b := ⟨_, rfl⟩
  go_wp2_with (fail)
  refine (has_is (HV.out.upb HB1.out) hrb).mono ?_
  rintro e w2 ⟨rfl, b1⟩
  clear z0 z1 z2 z3 f0 f1 f2 f3 x0 x1 x2 x3 g1 hzw
  replace HX1 := Lib.hid (HX1.out.upb b1)
  replace HZ1 := Lib.hid (HZ1.out.upb b1)
  replace HB1 := Lib.hid (HB1.out.up b1)
  clear b1
  have hzw := HZ1.out.lt
  have z0 := HZ1.out.cell (k := 0) rfl
  have z1 := HZ1.out.cell (k := 1) rfl
  have z2 := HZ1.out.cell (k := 2) rfl
  have z3 := HZ1.out.cell (k := 3) rfl
  have f0 := HZ1.out.frozen 0
  have f1 := HZ1.out.frozen 1
  have f2 := HZ1.out.frozen 2
  have f3 := HZ1.out.frozen 3
  have x0 := HX1.out.cell (k := 0) rfl
  have x1 := HX1.out.cell (k := 1) rfl
  have x2 := HX1.out.cell (k := 2) rfl
  have x3 := HX1.out.cell (k := 3) rfl
  have g1 := HX1.out.frozen 1
  cases rb with
  | false =>
    obtain ⟨rfl, rfl⟩ := HBAD.out (fun h => of_decide_eq_false hrb h.2)
    clear hrb
    go_wp2_with (fail)
    refine bodyPost_ret (dk_out rfl rfl rfl (HZ1.out.set4 (.slice none 0 0) (.slice none 0 0) (.int .i64 0) (.bool false))) rfl ?_
    exact ⟨_, rfl, IsD.zero, below_set4 HB1.out (by omega) _ _ _ _, sec_nil⟩
  | true =>
  have HHAS := Lib.hid (of_decide_eq_true hrb)
  clear hrb
  by_cases t1 : b.length ≤ 128
  case neg =>
    have dt1 : decide ((128 : Int) < (b.length : Int)) = true := decide_eq_true (by omega)
    obtain rfl : e0 = 1 := by rw [← HE.out]; unfold Dv.wrE; rw [if_pos ⟨HRUN.out, HHAS.out⟩, if_neg t1]
    obtain rfl : r0 = d0 := by rw [← HR.out]; unfold Dv.wr; rw [if_pos ⟨HRUN.out, HHAS.out⟩, if_neg t1]
    clear t1
    go_wp2_with (fail)
    refine bodyPost_ret (dk_out rfl rfl rfl (HZ1.out.set4 (.slice none 0 0) (.slice none 0 0) (.int .i64 0) (.bool false))) rfl ?_
    exact ⟨_, rfl, IsD.zero, below_set4 HB1.out (by omega) _ _ _ _, sec_nil⟩
  case pos =>
  have dt1 : decide ((128 : Int) < (b.length : Int)) = false := decide_eq_false (by omega)
  by_cases t2 : ps.length = 4096
  case pos =>
    have dt2 : ((ps.length : Int) == 4096) = true := by rw [t2]; rfl
    obtain rfl : e0 = 2 := by rw [← HE.out]; unfold Dv.wrE; rw [if_pos ⟨HRUN.out, HHAS.out⟩, if_pos t1, if_pos t2]
    obtain rfl : r0 = d0 := by rw [← HR.out]; unfold Dv.wr; rw [if_pos ⟨HRUN.out, HHAS.out⟩, if_pos t1, if_pos t2]
    clear t1 t2
    go_wp2_with (fail)
    refine bodyPost_ret (dk_out rfl rfl rfl (HZ1.out.set4 (.slice none 0 0) (.slice none 0 0) (.int .i64 0) (.bool false))) rfl ?_
    exact ⟨_, rfl, IsD.zero, below_set4 HB1.out (by omega) _ _ _ _, sec_nil⟩
  case neg =>
  have dt2 : ((ps.length : Int) == 4096) = false := beq_false_of_ne (by omega)
  obtain rfl : e0 = 0 := by rw [← HE.out]; unfold Dv.wrE; rw [if_pos ⟨HRUN.out, HHAS.out⟩, if_pos t1, if_neg t2]
  obtain rfl : r0 = ⟨ss, ps ++ [⟨at0, Dv.pad b⟩], left, st⟩ := by rw [← HR.out]; unfold Dv.wr; rw [if_pos ⟨HRUN.out, HHAS.out⟩, if_pos t1, if_neg t2]
  have HT1 := Lib.hid t1
  have hp4 := HRUN.out.1.p2
  simp only at hp4
  have HP4 := Lib.hid hp4
  obtain ⟨ZL, hZL, hmk⟩ := make_zs
  have HZL := Lib.hid hZL
  clear t1 t2 hp4 hZL
  have HCB := Lib.hid (show (b.map encB).length = Nat.min b.length 128 by rw [List.length_map]; exact (Nat.min_eq_left HT1.out).symm)
  have HCF := Lib.hid (show 0 + (b.map encB).length ≤ ZL.length by rw [HZL.out]; simp only [List.length_map]; unfold Dv.zs; rw [List.length_replicate]; have := HT1.out; omega)
  have HC1 := Lib.hid (show ∀ v ∈ b.map encB, v.oneCell' = true by intro v hv; simp only [List.mem_map] at hv; obtain ⟨y, _, rfl⟩ := hv; rfl)
  have HSRC := Lib.hid (src_of (HU.out.upb (HB1.out.up (al1 w2 (.cells ZL.toArray 5)))))
  go_wp2_with (refine wpList_copy_splice rfl (.tmp 32) (.tmp 33) 35 35 rfl 5 Try.underlying35 (by kernel_rfl) _ _ 128 128 b.length c6 rfl rfl w2.heap.size 0 ZL 5 (Cells.new w2 5 ZL) (b.map encB) HCB.out (fun hpos => ⟨rfl, HSRC.out hpos⟩) HCF.out HC1.out w2.heap.size (w2.alloc (.cells ZL.toArray 5)) (below_drop (w2.alloc (.cells ZL.toArray 5)) (by simp)) (Nat.le_refl _) ?_; intro w3 hd3 hb3; have HX3 := Lib.hid (((HX1.out.upb (al1 w2 (.cells ZL.toArray 5))).under hb3 (by omega))); have HZ3 := Lib.hid (((HZ1.out.upb (al1 w2 (.cells ZL.toArray 5))).under hb3 (by omega))); have HB3 := Lib.hid ((HB1.out.up (al1 w2 (.cells ZL.toArray 5))).trans (hb3.mono HB1.out.size)); have HD3 := Lib.hid (bytes_cells (bs := Dv.pad b) (n := 128) (c := 128) (W := w3) (g := w2.heap.size) (by rw [← pad_splice HT1.out, ← HZL.out]; exact hd3.out) (pad_len' HT1.out).symm (Nat.le_refl _)); clear hd3 hb3; have y1 := HX3.out.cell (k := 1) rfl)
  clear z0 z1 z2 z3 f0 f1 f2 f3 x0 x1 x2 x3 g1 hzw HSRC HCB HCF HC1 hmk
  refine (cloneW_any (H2.out.upb HB3.out) (by have := HP4.out; omega)).mono ?_
  rintro e w4 ⟨x4, rfl, ho, b4⟩
  obtain ⟨A4, c4, us, rfl, hle4, hl4, hr4, hi4, hA4⟩ := ho.row
  have HO4 := Lib.hid (And.intro hl4 (And.intro hr4 (And.intro hi4 hA4)))
  have HX4 := Lib.hid (HX3.out.upb b4)
  have HZ4 := Lib.hid (HZ3.out.upb b4)
  have HB4 := Lib.hid (HB3.out.up b4)
  have HD4 := Lib.hid (HD3.out.upb b4)
  clear y1 HX3 HZ3 HB3 HD3 b4 ho
  have HL4 := Lib.hid (And.intro hle4 hA4)
  clear hle4 hA4 hl4 hr4 hi4
  go_wp2_with (fail)
  refine (clipN_any HL4.out.1 HL4.out.2).mono ?_
  rintro e w5 ⟨rfl, rfl⟩
  go_wp2_with (at_builtin; go_must (refine wpList_app rfl (.tmp 38) (.tmp 42) 23 _ _ rfl rfl rfl (pushW_run _ HO4.out.1 HO4.out.2.1 HO4.out.2.2.1 HO4.out.2.2.2 (p := ⟨at0, Dv.pad b⟩) HD4.out HP4.out) ?_); rintro v6 w6 ⟨hw6, hb6, g6, cap6, rfl⟩; have HW6 := Lib.hid hw6; have HX6 := Lib.hid (HX4.out.upb hb6); have HZ6 := Lib.hid (HZ4.out.upb hb6); have HB6 := Lib.hid (HB4.out.up hb6); clear hw6 hb6; have z0 := HZ6.out.cell (k := 0) rfl; have z1 := HZ6.out.cell (k := 1) rfl; have z2 := HZ6.out.cell (k := 2) rfl; have z3 := HZ6.out.cell (k := 3) rfl; have f0 := HZ6.out.frozen 0; have f1 := HZ6.out.frozen 1; have f2 := HZ6.out.frozen 2; have f3 := HZ6.out.frozen 3; have x0 := HX6.out.cell (k := 0) rfl; have x1 := HX6.out.cell (k := 1) rfl; have x2 := HX6.out.cell (k := 2) rfl; have x3 := HX6.out.cell (k := 3) rfl; have g1 := HX6.out.frozen 1; have hzw := HZ6.out.lt)
  have HZ7 := (HZ6.out.other (show w.heap.size + 1 ≠ w.heap.size by omega) 1 (.slice (some ⟨g6, 0, none⟩) (ps.length + 1) cap6)).set4 (.slice A ss.length c) (.slice (some ⟨g6, 0, none⟩) (ps.length + 1) cap6) (.int .i64 left) (.bool st)
  refine bodyPost_ret (dk_out rfl rfl rfl HZ7) rfl ?_
  have hb := below_set4 (HB6.out.setCell (p := ⟨w.heap.size, 1, none⟩) (Nat.le_refl _) (.slice (some ⟨g6, 0, none⟩) (ps.length + 1) cap6)) (show w.heap.size ≤ w.heap.size + 1 by omega) (.slice A ss.length c) (.slice (some ⟨g6, 0, none⟩) (ps.length + 1) cap6) (.int .i64 left) (.bool st)
  refine ⟨_, rfl, isD_mk (H1.out.upb hb) ?_, hb, sec_same⟩
  exact (HW6.out.box HX6.out (grown_set _ _ 1 _)).box (HZ6.out.other (show w.heap.size + 1 ≠ w.heap.size by omega) 1 (.slice (some ⟨g6, 0, none⟩) (ps.length + 1) cap6)) (grown_set4 _ _ _ _ _ _)
end Go.Proofs.Ytimpnpdhhhbmgaa

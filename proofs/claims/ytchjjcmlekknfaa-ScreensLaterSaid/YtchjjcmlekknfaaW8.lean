/- Walk of ask. -/
import Derived.Test.YtchjjcmlekknfaaW7
import Derived.Deep.RegionHeld3
namespace Go.Proofs.Ytchjjcmlekknfaa
open Go.RowKit
set_option linter.unusedVariables false
set_option linter.unusedSimpArgs false

theorem wpList_buildW {W : World} {ops : Array Oper} {rest : List Oper} {o : Oper} {a : Act} {Q : Exit → Act → World → Prop} (hg : o.guard = none) (t : TypeId) (parts : Array (Nat × Operand)) (ho : o.op = .build t parts)
    (l : List (Nat × Value)) (hl : (parts.map fun (i, x) => (i, a.eval x)).toList = l) (cs : List Value) (hb : Try.prog.built t l = some cs.toArray)
    (h : wpList Try.prog ops Q rest (a.put o.dst (.agg cs.toArray)) W) : wpList Try.prog ops Q (o :: rest) a W := by
  subst hl
  refine wpList_build hg t parts ho (by rw [hb]; rfl) ?_
  rw [hb]; exact h
theorem wpList_build3 {W : World} {ops : Array Oper} {rest : List Oper} {o : Oper} {a : Act} {Q : Exit → Act → World → Prop} (hg : o.guard = none) (t : TypeId) (i j k : Nat) (x y z : Operand) (ho : o.op = .build t #[(i, x), (j, y), (k, z)])
    (vx vy vz : Value) (hx : a.eval x = vx) (hy : a.eval y = vy) (hz : a.eval z = vz) (cs : List Value) (hb : Try.prog.built t [(i, vx), (j, vy), (k, vz)] = some cs.toArray)
    (h : wpList Try.prog ops Q rest (a.put o.dst (.agg cs.toArray)) W) : wpList Try.prog ops Q (o :: rest) a W :=
  wpList_buildW hg t _ ho _ (by simp [hx, hy, hz]) cs hb h
theorem wpList_build0 {W : World} {ops : Array Oper} {rest : List Oper} {o : Oper} {a : Act} {Q : Exit → Act → World → Prop} (hg : o.guard = none) (t : TypeId) (ho : o.op = .build t #[])
    (cs : List Value) (hb : Try.prog.built t [] = some cs.toArray)
    (h : wpList Try.prog ops Q rest (a.put o.dst (.agg cs.toArray)) W) : wpList Try.prog ops Q (o :: rest) a W :=
  wpList_buildW hg t _ ho _ (by simp) cs hb h
/-- the sums of the first lines, half made -/
def sumL (d : List Int) (k : Nat) : List Int := (List.range 65).map (fun i => if i ≤ k then Sc.sumN d i else 0)
theorem sumL_len (d : List Int) (k : Nat) : (sumL d k).length = 65 := by simp [sumL]
theorem sumL_zero (d : List Int) : sumL d 0 = zer := by
  refine List.ext_getElem (by rw [sumL_len, zer_len]) fun i h1 h2 => ?_
  simp only [sumL, zer, List.getElem_map, List.getElem_range, List.getElem_replicate]
  split
  · rename_i h; obtain rfl : i = 0 := by omega
    exact Sc.sumN_zero d
  · rfl
theorem sumL_at {d : List Int} {k i : Nat} (h : i ≤ k) (hi : i < 65) : Sc.at_ (sumL d k) i = Sc.sumN d i := by
  rw [at_get (by rw [sumL_len]; exact hi)]
  simp [sumL, h]
theorem sumL_set {d : List Int} {k : Nat} (h : k + 1 < 65) : (sumL d k).set (k + 1) (Sc.sumN d (k + 1)) = sumL d (k + 1) := by
  refine List.ext_getElem (by simp [sumL]) fun i h1 h2 => ?_
  rw [List.getElem_set]
  simp only [sumL, List.getElem_map, List.getElem_range]
  split
  · rename_i e; subst e; rw [if_pos (Nat.le_refl _)]
  · by_cases hi : i ≤ k
    · rw [if_pos hi, if_pos (by omega)]
    · rw [if_neg hi, if_neg (by omega)]
theorem IsInts.row {w : World} {A : Option Addr} {n c : Nat} {xs : List Int} (h : IsInts w (.slice A n c) xs) : RowAt w A (xs.map (Value.int .i64)) := by
  obtain ⟨A', c', e, hr⟩ := h
  injection e with e1 e2 e3
  subst e1; exact hr
theorem cell_set_ne (W : World) {B o b x : Nat} (v : Value) (h : ¬ (B = b ∧ o = x)) : (W.setCell ⟨B, o, none⟩ v).drew.cell? ⟨b, x, none⟩ = W.cell? ⟨b, x, none⟩ := by
  show (W.setCell ⟨B, o, none⟩ v).cell? ⟨b, x, none⟩ = _
  exact World.cell?_setCell_other W ⟨B, o, none⟩ ⟨b, x, none⟩ v (by intro e; injection e with e1 e2; exact h ⟨e1, e2⟩)
def AskPost (A : Option Addr) (c : Nat) (r d : List Int) (m f : Int) (w : World) (e : Ending) (w' : World) : Prop :=
  ∃ cs : List Value, e = .returned (.tuple #[.agg cs.toArray, .int .i64 (Sc.errQ r d m f)]) ∧ cs.length = 68 ∧ (∀ v ∈ cs, v.oneCell' = true) ∧ (Sc.errQ r d m f = 0 → cs = qC A r.length c (sumL d r.length) m f) ∧ Below w.heap.size w w'

set_option maxHeartbeats 8000000 in
set_option maxRecDepth 100000 in
theorem ask_any (A A2 : Option Addr) (c c2 : Nat) (r d : List Int) (m f : Int) (w : World) (hv : IsInts w (.slice A r.length c) r) (hu : IsInts w (.slice A2 d.length c2) d) (hl : r.length ≤ 9223372036854775807) (hl2 : d.length ≤ 9223372036854775807) :
    Calls Try.prog 26 #[.slice A r.length c, .slice A2 d.length c2, .int .i64 m, .int .i64 f] w (AskPost A c r d m f w) := by
  have HV := Lib.hid hv
  have HW := Lib.hid hu
  obtain ⟨dd, hd1, hd2⟩ := u45
  have HU := Lib.hid (And.intro hd1 hd2)
  have hz := zero45
  have HC0 := Lib.hid (Cells.new w 45 qZ)
  have HB0 := Lib.hid (al1 w (.cells qZ.toArray 45))
  clear hv hu hd1 hd2
  by_cases hmx : 64 < max r.length d.length
  · have HE := Lib.hid (show Sc.errQ r d m f = 2 by unfold Sc.errQ; rw [if_pos (by omega)])
    rcases Nat.lt_or_ge r.length d.length with hlt | hge
    · have d0 : decide ((r.length : Int) < (d.length : Int)) = true := by rw [decide_eq_true_eq]; omega
      have d1 : decide ((64 : Int) < (d.length : Int)) = true := by rw [decide_eq_true_eq]; omega
      go_enter Try.func26, Try.ntmps26
      have HL45 := Lib.hid (show (qZ).length = 68 from qC_len (by first | exact zer_len | exact sumL_len _ _))
      have HL45n := Lib.hid (show (qZ).length = 68 from qC_len (by first | exact zer_len | exact sumL_len _ _))
      go_wp2_with (first | (refine wpList_loadW rfl 45 (.tmp 8) rfl w.heap.size rfl qZ _ HC0.out HU.out.1 HU.out.2 (by rw [HL45.out]; exact i45) ?_) | (refine wpList_storeW rfl 45 (.tmp 8) (.tmp 19) rfl w.heap.size rfl qZ qZ rfl HC0.out (by rw [HL45n.out]; exact i45) (HL45.out.trans HL45n.out.symm) qC_one ?_; intro W1 hc1 ht1; have HC1 := Lib.hid hc1; have HB1 := Lib.hid (ht1.below HB0.out (Nat.le_refl _)); clear hc1 ht1))
      (try simp only [Exit.inBlock, Exit.then])
      have hld := loadVar_W HC1.out HU.out.1 HU.out.2 (by rw [HL45n.out]; exact i45)
      refine bodyPost_ret (v := .tuple #[.agg (qZ).toArray, .int .i64 (2)]) ?_ rfl ⟨qZ, by rw [HE.out], HL45n.out, qC_one, (fun h => absurd (HE.out.symm.trans h) (by decide)), HB1.out⟩
      rw [results_cell_tmp rfl]
      simp [asAddr, Result.andThen, hld]
    · have d0 : decide ((r.length : Int) < (d.length : Int)) = false := by rw [decide_eq_false_iff_not]; omega
      have d1 : decide ((64 : Int) < (r.length : Int)) = true := by rw [decide_eq_true_eq]; omega
      go_enter Try.func26, Try.ntmps26
      have HL45 := Lib.hid (show (qZ).length = 68 from qC_len (by first | exact zer_len | exact sumL_len _ _))
      have HL45n := Lib.hid (show (qZ).length = 68 from qC_len (by first | exact zer_len | exact sumL_len _ _))
      go_wp2_with (first | (refine wpList_loadW rfl 45 (.tmp 8) rfl w.heap.size rfl qZ _ HC0.out HU.out.1 HU.out.2 (by rw [HL45.out]; exact i45) ?_) | (refine wpList_storeW rfl 45 (.tmp 8) (.tmp 19) rfl w.heap.size rfl qZ qZ rfl HC0.out (by rw [HL45n.out]; exact i45) (HL45.out.trans HL45n.out.symm) qC_one ?_; intro W1 hc1 ht1; have HC1 := Lib.hid hc1; have HB1 := Lib.hid (ht1.below HB0.out (Nat.le_refl _)); clear hc1 ht1))
      (try simp only [Exit.inBlock, Exit.then])
      have hld := loadVar_W HC1.out HU.out.1 HU.out.2 (by rw [HL45n.out]; exact i45)
      refine bodyPost_ret (v := .tuple #[.agg (qZ).toArray, .int .i64 (2)]) ?_ rfl ⟨qZ, by rw [HE.out], HL45n.out, qC_one, (fun h => absurd (HE.out.symm.trans h) (by decide)), HB1.out⟩
      rw [results_cell_tmp rfl]
      simp [asAddr, Result.andThen, hld]
  have hr64 : r.length ≤ 64 := by omega
  have hd64 : d.length ≤ 64 := by omega
  have d1 : decide ((64 : Int) < (r.length : Int)) = false := by rw [decide_eq_false_iff_not]; omega
  have d1' : decide ((64 : Int) < (d.length : Int)) = false := by rw [decide_eq_false_iff_not]; omega
  have HE0 := Lib.hid (show ∀ h : r.length ≠ d.length ∨ m < 1 ∨ 8 < m ∨ f < 0 ∨ 1073741824 < f, Sc.errQ r d m f = 480 by intro h; unfold Sc.errQ; rw [if_neg (by omega), if_pos h])
  clear hmx
  by_cases hlen : r.length = d.length
  rotate_left
  · have HE := Lib.hid (HE0.out (.inl hlen))
    have hbl : ((r.length : Int) != (d.length : Int)) = true := by simp; omega
    have hbl2 : ((r.length : Int) == (d.length : Int)) = false := by simp; omega
    rcases Nat.lt_or_ge r.length d.length with hlt | hge
    · have d0 : decide ((r.length : Int) < (d.length : Int)) = true := by rw [decide_eq_true_eq]; omega
      clear hlen
      go_enter Try.func26, Try.ntmps26
      have HL45 := Lib.hid (show (qZ).length = 68 from qC_len (by first | exact zer_len | exact sumL_len _ _))
      have HL45n := Lib.hid (show (qZ).length = 68 from qC_len (by first | exact zer_len | exact sumL_len _ _))
      go_wp2_with (first | (refine wpList_loadW rfl 45 (.tmp 8) rfl w.heap.size rfl qZ _ HC0.out HU.out.1 HU.out.2 (by rw [HL45.out]; exact i45) ?_) | (refine wpList_storeW rfl 45 (.tmp 8) (.tmp 35) rfl w.heap.size rfl qZ qZ rfl HC0.out (by rw [HL45n.out]; exact i45) (HL45.out.trans HL45n.out.symm) qC_one ?_; intro W1 hc1 ht1; have HC1 := Lib.hid hc1; have HB1 := Lib.hid (ht1.below HB0.out (Nat.le_refl _)); clear hc1 ht1))
      (try simp only [Exit.inBlock, Exit.then])
      have hld := loadVar_W HC1.out HU.out.1 HU.out.2 (by rw [HL45n.out]; exact i45)
      refine bodyPost_ret (v := .tuple #[.agg (qZ).toArray, .int .i64 (480)]) ?_ rfl ⟨qZ, by rw [HE.out], HL45n.out, qC_one, (fun h => absurd (HE.out.symm.trans h) (by decide)), HB1.out⟩
      rw [results_cell_tmp rfl]
      simp [asAddr, Result.andThen, hld]
    · have d0 : decide ((r.length : Int) < (d.length : Int)) = false := by rw [decide_eq_false_iff_not]; omega
      clear hlen
      go_enter Try.func26, Try.ntmps26
      have HL45 := Lib.hid (show (qZ).length = 68 from qC_len (by first | exact zer_len | exact sumL_len _ _))
      have HL45n := Lib.hid (show (qZ).length = 68 from qC_len (by first | exact zer_len | exact sumL_len _ _))
      go_wp2_with (first | (refine wpList_loadW rfl 45 (.tmp 8) rfl w.heap.size rfl qZ _ HC0.out HU.out.1 HU.out.2 (by rw [HL45.out]; exact i45) ?_) | (refine wpList_storeW rfl 45 (.tmp 8) (.tmp 35) rfl w.heap.size rfl qZ qZ rfl HC0.out (by rw [HL45n.out]; exact i45) (HL45.out.trans HL45n.out.symm) qC_one ?_; intro W1 hc1 ht1; have HC1 := Lib.hid hc1; have HB1 := Lib.hid (ht1.below HB0.out (Nat.le_refl _)); clear hc1 ht1))
      (try simp only [Exit.inBlock, Exit.then])
      have hld := loadVar_W HC1.out HU.out.1 HU.out.2 (by rw [HL45n.out]; exact i45)
      refine bodyPost_ret (v := .tuple #[.agg (qZ).toArray, .int .i64 (480)]) ?_ rfl ⟨qZ, by rw [HE.out], HL45n.out, qC_one, (fun h => absurd (HE.out.symm.trans h) (by decide)), HB1.out⟩
      rw [results_cell_tmp rfl]
      simp [asAddr, Result.andThen, hld]
  have d0 : decide ((r.length : Int) < (d.length : Int)) = false := by rw [decide_eq_false_iff_not]; omega
  have hbl : ((r.length : Int) != (d.length : Int)) = false := by simp; omega
  have hbl2 : ((r.length : Int) == (d.length : Int)) = true := by simp; omega
  have hnlt : ¬ r.length < d.length := by omega
  have HLEN := Lib.hid hlen
  clear hlen
  cases hm : (decide (1 ≤ m) && decide (m ≤ 8))
  · have HE := Lib.hid (HE0.out (by simp at hm; omega))
    replace hm := Lib.hid hm
    go_enter Try.func26, Try.ntmps26
    go_wp2_with (fail)
    refine (within_is hm.out).mono ?_
    rintro e _ ⟨rfl, rfl⟩
    have HL45 := Lib.hid (show (qZ).length = 68 from qC_len (by first | exact zer_len | exact sumL_len _ _))
    have HL45n := Lib.hid (show (qZ).length = 68 from qC_len (by first | exact zer_len | exact sumL_len _ _))
    go_wp2_with (first | (refine wpList_loadW rfl 45 (.tmp 8) rfl w.heap.size rfl qZ _ HC0.out HU.out.1 HU.out.2 (by rw [HL45.out]; exact i45) ?_) | (refine wpList_storeW rfl 45 (.tmp 8) (.tmp 35) rfl w.heap.size rfl qZ qZ rfl HC0.out (by rw [HL45n.out]; exact i45) (HL45.out.trans HL45n.out.symm) qC_one ?_; intro W1 hc1 ht1; have HC1 := Lib.hid hc1; have HB1 := Lib.hid (ht1.below HB0.out (Nat.le_refl _)); clear hc1 ht1))
    (try simp only [Exit.inBlock, Exit.then])
    have hld := loadVar_W HC1.out HU.out.1 HU.out.2 (by rw [HL45n.out]; exact i45)
    refine bodyPost_ret (v := .tuple #[.agg (qZ).toArray, .int .i64 (480)]) ?_ rfl ⟨qZ, by rw [HE.out], HL45n.out, qC_one, (fun h => absurd (HE.out.symm.trans h) (by decide)), HB1.out⟩
    rw [results_cell_tmp rfl]
    simp [asAddr, Result.andThen, hld]
  have HM := Lib.hid (show 1 ≤ m ∧ m ≤ 8 by simpa using hm)
  replace hm := Lib.hid hm
  cases hf : (decide (0 ≤ f) && decide (f ≤ 1073741824))
  · have HE := Lib.hid (HE0.out (by simp at hf; omega))
    replace hf := Lib.hid hf
    go_enter Try.func26, Try.ntmps26
    go_wp2_with (fail)
    refine (within_is hm.out).mono ?_
    rintro e _ ⟨rfl, rfl⟩
    go_wp2_with (fail)
    refine (within_is hf.out).mono ?_
    rintro e _ ⟨rfl, rfl⟩
    have HL45 := Lib.hid (show (qZ).length = 68 from qC_len (by first | exact zer_len | exact sumL_len _ _))
    have HL45n := Lib.hid (show (qZ).length = 68 from qC_len (by first | exact zer_len | exact sumL_len _ _))
    go_wp2_with (first | (refine wpList_loadW rfl 45 (.tmp 8) rfl w.heap.size rfl qZ _ HC0.out HU.out.1 HU.out.2 (by rw [HL45.out]; exact i45) ?_) | (refine wpList_storeW rfl 45 (.tmp 8) (.tmp 35) rfl w.heap.size rfl qZ qZ rfl HC0.out (by rw [HL45n.out]; exact i45) (HL45.out.trans HL45n.out.symm) qC_one ?_; intro W1 hc1 ht1; have HC1 := Lib.hid hc1; have HB1 := Lib.hid (ht1.below HB0.out (Nat.le_refl _)); clear hc1 ht1))
    (try simp only [Exit.inBlock, Exit.then])
    have hld := loadVar_W HC1.out HU.out.1 HU.out.2 (by rw [HL45n.out]; exact i45)
    refine bodyPost_ret (v := .tuple #[.agg (qZ).toArray, .int .i64 (480)]) ?_ rfl ⟨qZ, by rw [HE.out], HL45n.out, qC_one, (fun h => absurd (HE.out.symm.trans h) (by decide)), HB1.out⟩
    rw [results_cell_tmp rfl]
    simp [asAddr, Result.andThen, hld]
  have HF := Lib.hid (show 0 ≤ f ∧ f ≤ 1073741824 by simpa using hf)
  replace hf := Lib.hid hf
  have HG : Hid (∀ b, Sc.goodL 0 r d = b → Sc.errQ r d m f = if b = true then 0 else 480) := Lib.hid (fun b hb => by
    have := HM.out; have := HF.out; have := HLEN.out
    unfold Sc.errQ; rw [if_neg (by omega), if_neg (by omega), hb])
  clear HE0
  have HL45 := Lib.hid (show qZ.length = 68 from qC_len zer_len)
  have HL45n := Lib.hid (show (qC A r.length c zer m f).length = 68 from qC_len zer_len)
  go_enter Try.func26, Try.ntmps26
  go_wp2_with (fail)
  refine (within_is hm.out).mono ?_
  rintro e _ ⟨rfl, rfl⟩
  go_wp2_with (fail)
  refine (within_is hf.out).mono ?_
  rintro e _ ⟨rfl, rfl⟩
  clear hz
  go_wp2_with (first | (refine wpList_build3 rfl 45 0 2 3 (.tmp 36) (.tmp 37) (.tmp 38) rfl (.slice A r.length c) (.int .i64 m) (.int .i64 f) rfl rfl rfl (qC A r.length c zer m f) (built45 A r.length c m f) ?_) | (refine wpList_storeW rfl 45 (.tmp 8) (.tmp 39) rfl w.heap.size rfl qZ (qC A r.length c zer m f) rfl HC0.out (by rw [HL45n.out]; exact i45) (HL45.out.trans HL45n.out.symm) qC_one ?_; intro W1 hc1 ht1; have HC1 := Lib.hid hc1; have HB1 := Lib.hid (ht1.below HB0.out (Nat.le_refl _)); clear hc1 ht1))
  go_loopw [10, 11, 12, 42] (fun lv _ _ iv wr => ∃ k : Nat, k ≤ r.length ∧ lv = .int .i64 (prevR r k) ∧ iv = .int .i64 k ∧ Hid (0 ≤ prevR r k ∧ Sc.goodL 0 r d = Sc.goodL (prevR r k) (r.drop k) (d.drop k)) ∧ Hid (Cells wr w.heap.size 45 (qC A r.length c (sumL d k) m f)) ∧ Hid (Below w.heap.size w wr) ∧ Hid (0 ≤ Sc.sumN d k ∧ Sc.sumN d k ≤ 1073741824 * k)) (fun _ _ _ iv _ => r.length - (intOf iv).toNat)
  case atStart => exact ⟨0, Nat.zero_le _, rfl, rfl, Lib.hid ⟨Int.le_refl 0, rfl⟩, by rw [sumL_zero]; exact HC1, HB1, Lib.hid (by rw [Sc.sumN_zero]; exact ⟨Int.le_refl 0, by omega⟩)⟩
  case round =>
    obtain ⟨k, hk, rfl, rfl, H, HC, HB, HSB⟩ := hrel
    clear HC0 HB0 HC1 HB1
    by_cases hlt : k < r.length
    · have hlt2 : k < d.length := by have := HLEN.out; omega
      obtain ⟨b, off, rfl, _, hc⟩ := at_cell (HV.out.below HB.out).row hlt
      obtain ⟨b2, off2, rfl, hb2, hc2⟩ := at_cell HW.out.row hlt2
      rw [← (bcell HB.out).1 b2 _ hb2] at hc2
      have HS := Lib.hid (goodL_step (p := prevR r k) hlt HLEN.out)
      have HNX := Lib.hid (show prevR r (k + 1) = Sc.at_ r k by unfold prevR; rw [if_neg (by omega), Nat.add_sub_cancel])
      have HSN := Lib.hid (Sc.sumN_succ d k hlt2)
      generalize Sc.at_ r k = x at *
      generalize Sc.at_ d k = y at *
      generalize hpv : prevR r k = pv at *
      have HPV := Lib.hid hpv
      clear hpv
      have HL45 := Lib.hid (show (qC (some ⟨b, off, none⟩) r.length c (sumL d k) m f).length = 68 from qC_len (sumL_len _ _))
      have HL45n := Lib.hid (show qZ.length = 68 from qC_len zer_len)
      cases hx : (decide (pv ≤ x) && decide (x ≤ 1099511627775))
      · have HE := Lib.hid (show Sc.errQ r d m f = 480 from (HG.out false (by
          rw [H.out.2, HS.out]
          simp only [Bool.and_eq_false_iff, decide_eq_false_iff_not] at hx ⊢
          omega)).trans rfl)
        replace hx := Lib.hid hx
        go_wp2_with (fail)
        refine (within_is hx.out).mono ?_
        rintro e _ ⟨rfl, rfl⟩
        go_wp2_with (first | (refine wpList_build0 rfl 45 rfl qZ built45z ?_) | (refine wpList_storeW rfl 45 (.tmp 8) (.tmp 59) rfl w.heap.size rfl (qC (some ⟨b, off, none⟩) r.length c (sumL d k) m f) (qZ) rfl HC.out (by rw [HL45n.out]; exact i45) (HL45.out.trans HL45n.out.symm) qC_one ?_; intro W1 hc1 ht1; have HC1 := Lib.hid hc1; have HB1 := Lib.hid (ht1.below HB.out (Nat.le_refl _)); clear hc1 ht1))
        (try simp only [Exit.inBlock, Exit.then])
        have hld := loadVar_W HC1.out HU.out.1 HU.out.2 (by rw [HL45n.out]; exact i45)
        refine bodyPost_ret (v := .tuple #[.agg (qZ).toArray, .int .i64 (480)]) ?_ rfl ⟨qZ, by rw [HE.out], HL45n.out, qC_one, (fun h => absurd (HE.out.symm.trans h) (by decide)), HB1.out⟩
        rw [results_cell_tmp rfl]
        simp [asAddr, Result.andThen, hld]
      have hx2 : pv ≤ x ∧ x ≤ 1099511627775 := by simpa using hx
      cases hy : (decide (0 ≤ y) && decide (y ≤ 1073741824))
      · have HE := Lib.hid (show Sc.errQ r d m f = 480 from (HG.out false (by
          rw [H.out.2, HS.out]
          simp only [Bool.and_eq_false_iff, decide_eq_false_iff_not] at hy ⊢
          omega)).trans rfl)
        replace hx := Lib.hid hx
        replace hy := Lib.hid hy
        go_wp2_with (fail)
        refine (within_is hx.out).mono ?_
        rintro e _ ⟨rfl, rfl⟩
        go_wp2_with (fail)
        refine (within_is hy.out).mono ?_
        rintro e _ ⟨rfl, rfl⟩
        go_wp2_with (first | (refine wpList_build0 rfl 45 rfl qZ built45z ?_) | (refine wpList_storeW rfl 45 (.tmp 8) (.tmp 59) rfl w.heap.size rfl (qC (some ⟨b, off, none⟩) r.length c (sumL d k) m f) (qZ) rfl HC.out (by rw [HL45n.out]; exact i45) (HL45.out.trans HL45n.out.symm) qC_one ?_; intro W1 hc1 ht1; have HC1 := Lib.hid hc1; have HB1 := Lib.hid (ht1.below HB.out (Nat.le_refl _)); clear hc1 ht1))
        (try simp only [Exit.inBlock, Exit.then])
        have hld := loadVar_W HC1.out HU.out.1 HU.out.2 (by rw [HL45n.out]; exact i45)
        refine bodyPost_ret (v := .tuple #[.agg (qZ).toArray, .int .i64 (480)]) ?_ rfl ⟨qZ, by rw [HE.out], HL45n.out, qC_one, (fun h => absurd (HE.out.symm.trans h) (by decide)), HB1.out⟩
        rw [results_cell_tmp rfl]
        simp [asAddr, Result.andThen, hld]
      have hy2 : 0 ≤ y ∧ y ≤ 1073741824 := by simpa using hy
      have HR := Lib.hid (show 0 ≤ prevR r (k + 1) ∧ Sc.goodL 0 r d = Sc.goodL (prevR r (k + 1)) (r.drop (k + 1)) (d.drop (k + 1)) by
        refine ⟨by rw [HNX.out]; have := H.out.1; omega, ?_⟩
        rw [H.out.2, HS.out, decide_eq_true hx2.1, decide_eq_true hx2.2, decide_eq_true hy2.1, decide_eq_true hy2.2]
        rfl)
      replace hx := Lib.hid hx
      replace hy := Lib.hid hy
      have hs0 := HSB.out
      have hcs : wr.cell? ⟨w.heap.size, 1 + k, none⟩ = some (.int .i64 (Sc.sumN d k)) := HC.out.cell (by rw [qC_sum (sumL_len _ _) (by omega), sumL_at (Nat.le_refl k) (by omega)])
      have hfz := HC.out.frozen (1 + (k + 1))
      have hcn := HC.out.cell (qC_sum (A := some ⟨b, off, none⟩) (n := r.length) (c := c) (m := m) (f := f) (sumL_len d k) (show k + 1 < 65 by omega))
      have HC2 := Lib.hid (show ∀ v, v = Sc.sumN d (k + 1) → Cells (wr.setCell ⟨w.heap.size, 1 + (k + 1), none⟩ (.int .i64 v)).drew w.heap.size 45 (qC (some ⟨b, off, none⟩) r.length c (sumL d (k + 1)) m f) from fun v hv => by
        subst hv
        have h := HC.out.set (k := 1 + (k + 1)) (.int .i64 (Sc.sumN d (k + 1)))
        rw [qC_set (sumL_len _ _) (by omega), sumL_set (by omega)] at h
        exact h)
      have HSB2 := Lib.hid (show 0 ≤ Sc.sumN d (k + 1) ∧ Sc.sumN d (k + 1) ≤ 1073741824 * ((k + 1 : Nat) : Int) by rw [HSN.out]; omega)
      generalize Sc.sumN d k = sk at *
      go_wp2_with (fail)
      refine (within_is hx.out).mono ?_
      rintro e _ ⟨rfl, rfl⟩
      go_wp2_with (fail)
      refine (within_is hy.out).mono ?_
      rintro e _ ⟨rfl, rfl⟩
      go_wp2_with (fail)
      have HKEEP := Lib.hid (fun v => show (wr.setCell ⟨w.heap.size, 1 + (k + 1), none⟩ v).drew.cell? ⟨w.heap.size, 1 + k, none⟩ = some (.int .i64 sk) ∧ (wr.setCell ⟨w.heap.size, 1 + (k + 1), none⟩ v).drew.cell? ⟨b2, off2 + k, none⟩ = some (.int .i64 y) from ⟨(cell_set_ne wr v (by simp)).trans hcs, (cell_set_ne wr v (by simp; omega)).trans hc2⟩)
      have hk0 : (0 : Int) ≤ (k : Int) := by omega
      have hk1 : (k : Int) < 65 := by omega
      have hk2 : (0 : Int) ≤ (k : Int) + 1 := by omega
      have hk3 : (k : Int) + 1 < 65 := by omega
      have hkw : IntKind.i64.wrap ((k : Int) + 1) = (k : Int) + 1 := by rw [IntKind.wrap_i64]; omega
      have hsw : IntKind.i64.wrap (sk + y) = sk + y := by rw [IntKind.wrap_i64]; omega
      have hkt : ((k : Int) + 1).toNat = k + 1 := by omega
      go_region_held3 (fun X => X.cell? ⟨w.heap.size, 1 + k, none⟩ = some (.int .i64 sk) ∧ X.cell? ⟨b2, off2 + k, none⟩ = some (.int .i64 y)) (first | exact ⟨hcs, hc2⟩ | exact HKEEP.out _) (fail)
      go_wp2_with (fail)
      go_roundw
      case rel => exact ⟨k + 1, by omega, by rw [HNX.out], by go_num, HR, Lib.hid (HC2.out _ (by rw [HSN.out])), Lib.hid (below_drewN ((turn_cell _ _ _ _).below HB.out (Nat.le_refl _)) 1), HSB2⟩
      case measure => first | omega | (simp [intOf]; omega)
    · have hkr : k = r.length := by omega
      have HE := Lib.hid (show Sc.errQ r d m f = 0 from (HG.out true (by rw [H.out.2, List.drop_of_length_le (by omega)]; rfl)).trans rfl)
      rw [hkr] at HC
      clear hkr
      have HL45 := Lib.hid (show (qC A r.length c (sumL d r.length) m f).length = 68 from qC_len (sumL_len _ _))
      have HL45n := HL45
      go_wp2_with (first | (refine wpList_loadW rfl 45 (.tmp 8) rfl w.heap.size rfl (qC A r.length c (sumL d r.length) m f) _ HC.out HU.out.1 HU.out.2 (by rw [HL45.out]; exact i45) ?_) | (refine wpList_storeW rfl 45 (.tmp 8) (.tmp 75) rfl w.heap.size rfl (qC A r.length c (sumL d r.length) m f) (qC A r.length c (sumL d r.length) m f) rfl HC.out (by rw [HL45n.out]; exact i45) (HL45.out.trans HL45n.out.symm) qC_one ?_; intro W1 hc1 ht1; have HC1 := Lib.hid hc1; have HB1 := Lib.hid (ht1.below HB.out (Nat.le_refl _)); clear hc1 ht1))
      (try simp only [Exit.inBlock, Exit.then])
      have hld := loadVar_W HC1.out HU.out.1 HU.out.2 (by rw [HL45n.out]; exact i45)
      refine bodyPost_ret (v := .tuple #[.agg (qC A r.length c (sumL d r.length) m f).toArray, .int .i64 (0)]) ?_ rfl ⟨qC A r.length c (sumL d r.length) m f, by rw [HE.out], HL45n.out, qC_one, (fun _ => rfl), HB1.out⟩
      rw [results_cell_tmp rfl]
      simp [asAddr, Result.andThen, hld]
end Go.Proofs.Ytchjjcmlekknfaa

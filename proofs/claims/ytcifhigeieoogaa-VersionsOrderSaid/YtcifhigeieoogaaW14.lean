/- Walk of History. -/
import Derived.Test.YtcifhigeieoogaaW13
import Derived.Deep.Cut
import Derived.Deep.CutRange
namespace Go.Proofs.Ytcifhigeieoogaa
open Go.RowKit
set_option linter.unusedVariables false
set_option linter.unusedSimpArgs false
attribute [local go_sem] frozen_new
def Vn.hisE (l : List Am) (key k0 : Int) : Int := if Vn.err l = 0 then (if Vn.inn key 1048576 && Vn.inn k0 1099511627775 then 0 else 1) else Vn.err l
theorem OwnSs.mono {w : World} {base base' : Nat} {v : Value} {xs : List St} (h : OwnSs w base v xs) (hb : base' ≤ base) : OwnSs w base' v xs := by
  obtain ⟨h1, h2 | ⟨g, cap, cur, e, h3, h4⟩⟩ := h
  · exact ⟨h1, .inl h2⟩
  · exact ⟨h1, .inr ⟨g, cap, cur, e, Nat.le_trans hb h3, h4⟩⟩
/-- a box of a step is stored whole -/
def setS (W : World) (B : Nat) (x : St) : World := ((W.setCell ⟨B, 0, none⟩ (.int .i64 x.at_)).setCell ⟨B, 1, none⟩ (.int .i64 x.value)).setCell ⟨B, 2, none⟩ (.bool x.ok)
theorem BoxS.setS {W : World} {B : Nat} {y : St} (h : BoxS W B y) (x : St) : BoxS (setS W B x) B x :=
  (((show Cells W B 44 (encS y) from h).set (k := 0) (.int .i64 x.at_)).set (k := 1) (.int .i64 x.value)).set (k := 2) (.bool x.ok)
theorem setS_grown (W : World) (B : Nat) (x : St) : W.grownBy (setS W B x) (some B) := by
  have g : ∀ (X : World) (k : Nat) (u : Value), X.grownBy (X.setCell ⟨B, k, none⟩ u) (some B) := fun X k u => ⟨rfl, rfl, rfl, by simp [World.setCell], fun b hb hne => Below.heap_setCell X ⟨B, k, none⟩ u b (fun e => hne (by rw [e]))⟩
  have tr : ∀ X Y Z : World, X.grownBy Y (some B) → Y.grownBy Z (some B) → X.grownBy Z (some B) := fun X Y Z h k =>
    ⟨k.os.trans h.os, k.tape.trans h.tape, k.output.trans h.output, Nat.le_trans h.size k.size, fun b hb hne => (k.block b (Nat.lt_of_lt_of_le hb h.size) hne).trans (h.block b hb hne)⟩
  exact tr _ _ _ (tr _ _ _ (g _ _ _) (g _ _ _)) (g _ _ _)
theorem OwnSs.setS {W : World} {base B : Nat} {v : Value} {xs : List St} (h : OwnSs W base v xs) (hB : B < base) (x : St) : OwnSs (setS W B x) base v xs :=
  World.ownsRow.kept h (setS_grown W B x) (.inr (fun e => by have := (OwnSs.at h B e).1; omega))
theorem below_setS {n : Nat} {w W : World} (h : Below n w W) {B : Nat} (hB : n ≤ B) (x : St) : Below n w (setS W B x) :=
  ((h.setCell (p := ⟨B, 0, none⟩) hB (.int .i64 x.at_)).setCell (p := ⟨B, 1, none⟩) hB (.int .i64 x.value)).setCell (p := ⟨B, 2, none⟩) hB (.bool x.ok)
def HisPost (l : List Am) (key k0 : Int) (w : World) : Ending → World → Prop := fun e w' => ∃ v' s, e = .returned (.tuple #[v', .int .i64 (Vn.hisE l key k0)]) ∧ OwnSs w' w.heap.size v' s ∧ (Vn.hisE l key k0 = 0 → Vn.Hist l key k0 s) ∧ (Vn.hisE l key k0 ≠ 0 → s = []) ∧ Below w.heap.size w w'
theorem hisE_err {l : List Am} {key k0 z : Int} (h : Vn.err l = z) (hz : ¬ z = 0) : Vn.hisE l key k0 = z := by unfold Vn.hisE; rw [if_neg (by rw [h]; exact hz), h]
theorem hisE_arg {l : List Am} {key k0 : Int} (h : Vn.err l = 0) (ha : (Vn.inn key 1048576 && Vn.inn k0 1099511627775) = false) : Vn.hisE l key k0 = 1 := by unfold Vn.hisE; rw [if_pos h, ha]; rfl
theorem hisE_ok {l : List Am} {key k0 : Int} (h : Vn.err l = 0) (ha : (Vn.inn key 1048576 && Vn.inn k0 1099511627775) = true) : Vn.hisE l key k0 = 0 := by unfold Vn.hisE; rw [if_pos h, ha]; rfl
theorem HisPost.bad {l : List Am} {key k0 z : Int} {w w' : World} (h : Vn.hisE l key k0 = z) (hz : z ≠ 0) (hb : Below w.heap.size w w') : HisPost l key k0 w (.returned (.tuple #[.slice none 0 0, .int .i64 z])) w' :=
  ⟨_, [], by rw [h], OwnSs.nil _ _, fun h0 => absurd (h.symm.trans h0) hz, fun _ => rfl, hb⟩
theorem HisPost.good {l : List Am} {key k0 : Int} {w w' : World} {v : Value} {s : List St} (h : Vn.hisE l key k0 = 0) (ho : OwnSs w' w.heap.size v s) (hh : Vn.Hist l key k0 s) (hb : Below w.heap.size w w') : HisPost l key k0 w (.returned (.tuple #[v, .int .i64 0])) w' :=
  ⟨_, s, by rw [h], ho, fun _ => hh, fun h0 => absurd h h0, hb⟩

set_option maxHeartbeats 8000000 in
set_option maxRecDepth 100000 in
theorem History_any (v : Value) (l : List Am) (key k0 : Int) (w : World) (hv : IsAs w v l) (hl : l.length ≤ 9223372036854775807) : Calls Try.prog 19 #[v, .int .i64 key, .int .i64 k0] w (HisPost l key k0 w) := by
  have HV := Lib.hid hv
  obtain ⟨A, cap, rfl, hr⟩ := id hv
  clear hr hv
  go_enter Try.func19, Try.ntmps19
  go_wp2_with (fail)
  by_cases he : Vn.err l = 0
  rotate_left
  · obtain ⟨z, hz⟩ : ∃ z, Vn.err l = z := ⟨_, rfl⟩
    have hne : (z != 0) = true := by rw [← hz, bne_iff_ne]; exact he
    have hz0 : z ≠ 0 := by rw [← hz]; exact he
    have E := Lib.hid (And.intro (hisE_err (key := key) (k0 := k0) hz hz0) hz0)
    refine (Check_is hz HV.out hl).mono ?_
    rintro e w1 ⟨rfl, b1⟩
    clear he hz hz0
    go_wp2_with (fail)
    go_ret2
    exact .bad E.out.1 E.out.2 b1
  have HOK := Lib.hid ((Vn.err_iff l).1 he)
  have hl2 : l.length ≤ 4096 := HOK.out.len
  refine (Check_is he HV.out hl).mono ?_
  rintro e w1 ⟨rfl, b1⟩
  have HB1 := Lib.hid b1
  have HE := Lib.hid he
  clear b1 he
  go_wp2_with (fail)
  cases a0 : Vn.inn key 1048576
  · refine (within_is a0 _).mono ?_
    rintro e _ ⟨rfl, rfl⟩
    have E := Lib.hid (hisE_arg (key := key) (k0 := k0) HE.out (by rw [a0]; rfl))
    go_wp2_with (fail)
    go_ret2
    exact .bad E.out (by decide) HB1.out
  refine (within_is a0 _).mono ?_
  rintro e _ ⟨rfl, rfl⟩
  go_wp2_with (fail)
  cases a1 : Vn.inn k0 1099511627775
  · refine (within_is a1 _).mono ?_
    rintro e _ ⟨rfl, rfl⟩
    have E := Lib.hid (hisE_arg (key := key) (k0 := k0) HE.out (by rw [a0, a1]; rfl))
    go_wp2_with (fail)
    go_ret2
    exact .bad E.out (by decide) HB1.out
  refine (within_is a1 _).mono ?_
  rintro e _ ⟨rfl, rfl⟩
  have E := Lib.hid (hisE_ok (key := key) (k0 := k0) HE.out (by rw [a0, a1]; rfl))
  clear a0 a1
  go_wp2_with (fail)
  refine (known_any A l.length cap key k0 _).mono ?_
  rintro e w2 ⟨rfl, hw2⟩
  have b2 : Below w1.heap.size w1 w2 := by rw [← hw2]; exact ((al1 w1 _).up (al1 _ _)).up (al1 _ _)
  have c1 : Boxed w2 w1.heap.size 22 (.slice A l.length cap) := by rw [← hw2]; exact ((Boxed.new w1 22 _).alloc _).alloc _
  have c2 : Boxed w2 (w1.heap.size + 1) 3 (.int .i64 key) := by
    have := ((Boxed.new (w1.alloc (.cells #[.slice A l.length cap] 22)) 3 (.int .i64 key))).alloc (.cells #[.int .i64 k0] 3)
    rw [World.size_alloc] at this
    rw [← hw2]; exact this
  have c3 : Boxed w2 (w1.heap.size + 1 + 1) 3 (.int .i64 k0) := by
    have := (Boxed.new ((w1.alloc (.cells #[.slice A l.length cap] 22)).alloc (.cells #[.int .i64 key] 3)) 3 (.int .i64 k0))
    rw [World.size_alloc, World.size_alloc] at this
    rw [← hw2]; exact this
  clear hw2
  have HB2 := Lib.hid (HB1.out.up b2)
  have hw : w.heap.size ≤ w2.heap.size := HB2.out.size
  have hn1 := c1.lt
  have hn2 := c2.lt
  have hn3 := c3.lt
  have hkl : (kn l key k0).length ≤ 4096 := Nat.le_trans (List.length_filter_le _ _) hl2
  have HG := Lib.hid (sortedFunc_any 42 #[.pointer (some ⟨w1.heap.size, 0, none⟩), .pointer (some ⟨w1.heap.size + 1, 0, none⟩), .pointer (some ⟨w1.heap.size + 1 + 1, 0, none⟩)] (kn l key k0) (protK w1.heap.size (w1.heap.size + 1) (w1.heap.size + 1 + 1) w.heap.size) w2 (fun _ _ => rfl)
    (by rintro b (rfl | rfl | rfl | h) <;> omega) hkl
    (fun X hX => known_iter w1.heap.size (w1.heap.size + 1) (w1.heap.size + 1 + 1) l A cap key k0 w X (boxed_below c1 hX).cell (boxed_below c2 hX).cell (boxed_below c3 hX).cell HV.out (HB2.out.up hX) hl2))
  clear b2 c1 c2 c3 hw hn1 hn2 hn3
  go_wp2_with (fail)
  refine HG.out.mono ?_
  rintro e w3 ⟨A3, c3, a, rfl, hp, hn, hi, b3⟩
  have HB3 := Lib.hid (HB2.out.up b3)
  have HS := Lib.hid (sorted_of HOK.out.inc hp hn)
  have hal : a.length ≤ 4096 := by rw [hp.length_eq]; exact hkl
  obtain ⟨A4, c4, e4, hrow⟩ := hi
  injection e4 with e4 _ e5
  subst e4 e5
  have HR := Lib.hid hrow
  clear b3 hp hn hrow HG HB2 HB1
  have H90 := Lib.hid (BoxS.new w3 ⟨0, 0, false⟩)
  have HK0 := Lib.hid (al1 w3 (.cells #[.int .i64 0, .int .i64 0, .bool false] 44))
  have HU0 := Lib.hid (Vn.Upto.zero HOK.out.rt HS.out)
  go_wp2_with (fail)
  go_loopw [6, 34] (fun r i wr => ∃ (k : Nat) (t : Int) (s : List St) (lv : St), i = .int .i64 k ∧ k ≤ a.length ∧ Hid (Vn.Upto l key k0 a k t s lv.value lv.ok) ∧ Hid (OwnSs wr (w3.heap.size + 1) r s) ∧ Hid (BoxS wr w3.heap.size lv) ∧ Hid (s.length ≤ k) ∧ Hid (Below w3.heap.size w3 wr)) (fun _ i _ => a.length - (intOf i).toNat)
  case atStart => exact ⟨0, -1, [], ⟨0, 0, false⟩, rfl, Nat.zero_le _, HU0, Lib.hid (OwnSs.nil _ _), H90, Lib.hid (Nat.le_refl _), HK0⟩
  case round =>
    clear H90 HK0 HU0
    obtain ⟨k, t, s, lv, rfl, hk, HU, HO, H9, HSL, HK⟩ := hrel
    by_cases hlt : k < a.length
    case neg =>
      obtain rfl : k = a.length := by omega
      have hd1 : decide ((a.length : Int) < (a.length : Int)) = false := decide_eq_false (by omega)
      go_wp2_with (fail)
      go_ret2
      exact .good E.out (HO.out.mono (by have := HB3.out.size; omega)) (Vn.Upto.whole HS.out HU.out) (HB3.out.up HK.out)
    case pos =>
    have hd1 : decide ((k : Int) < (a.length : Int)) = true := decide_eq_true (by omega)
    obtain ⟨b, off, rfl, hat⟩ := IsAs_at HR.out hlt
    have HX := Lib.hid (hat.below HK.out)
    have HSTEP := Lib.hid (fun he => Vn.Upto.step HOK.out HS.out HU.out hlt he)
    obtain ⟨x, hx⟩ : ∃ x, a[k] = x := ⟨_, rfl⟩
    rw [hx] at HX HSTEP
    have HSKIP := Lib.hid (fun (hi : k + 1 < a.length) (he : a[k + 1].at_ = x.at_) => Vn.Upto.skip HU.out hi (by rw [he, ← hx]))
    have HXE := Lib.hid hx
    have HN := Lib.hid (BoxA.new wr x)
    have HA := Lib.hid (al1 wr (.cells #[.int .i64 x.no, .int .i64 x.at_, .int .i64 x.known, .int .i64 x.key, .int .i64 x.value, .bool x.gone] 27))
    clear hat hx
    have H91 := Lib.hid (H9.out.upb HA.out)
    have HO1 := Lib.hid (HO.out.upb HA.out)
    have HK1 := Lib.hid (HK.out.up HA.out)
    clear H9 HO HK HU
    have q0 := HX.out.c0
    have q1 := HX.out.c1
    have q2 := HX.out.c2
    have q3 := HX.out.c3
    have q4 := HX.out.c4
    have q5 := HX.out.c5
    have hw1 : IntKind.i64.wrap ((k : Int) + 1) = (k : Int) + 1 := by rw [IntKind.wrap_i64]; omega
    have hb1 : (0 : Int) ≤ (k : Int) + 1 := by omega
    have ht1 : ((k : Int) + 1).toNat = k + 1 := by omega
    have hk1 : (k : Int) < (a.length : Int) := by omega
    go_wp2_with (fail)
    generalize hWX : wr.alloc (.cells #[.int .i64 x.no, .int .i64 x.at_, .int .i64 x.known, .int .i64 x.key, .int .i64 x.value, .bool x.gone] 27) = X0 at *
    have n1 := HN.out.c1
    have ln := HN.out.lt
    by_cases hk2 : k + 1 < a.length
    case pos =>
      have hd2 : decide ((k : Int) + 1 < (a.length : Int)) = true := decide_eq_true (by omega)
      have hk3 : (k : Int) + 1 < (a.length : Int) := by omega
      obtain ⟨b', off', e', hat2⟩ := IsAs_at HR.out hk2
      injection e' with e'
      injection e' with e1 e2
      subst e1 e2
      have y1 := (hat2.below HK1.out).c1
      obtain ⟨ya, hya⟩ : ∃ y, a[k + 1].at_ = y := ⟨_, rfl⟩
      rw [hya] at y1
      clear hat2
      cases dq : (ya == x.at_)
      · have HNE := Lib.hid (show ∀ h : k + 1 < a.length, a[k + 1].at_ ≠ x.at_ from fun h => by rw [hya]; simpa using dq)
        clear hya
        have HST := Lib.hid (HSTEP.out HNE.out)
        clear HSKIP HSTEP HNE
        go_quiet (fail)
        obtain ⟨X, hX⟩ : ∃ X, X0.drewN nq = X := ⟨_, rfl⟩
        have HNX := Lib.hid (HN.out.drewN nq)
        have H9X := Lib.hid (H91.out.drewN nq)
        have HOX := Lib.hid (HO1.out.drewN nq)
        have HKX := Lib.hid (below_drewN HK1.out nq)
        simp only [hX] at HNX H9X HOX HKX ⊢
        clear hX HN H91 HO1 HK1 n1 ln
        have n1 := HNX.out.c1
        have n4 := HNX.out.c4
        have n5 := HNX.out.c5
        have ln := HNX.out.lt
        have l0 := H9X.out.c0
        have l1 := H9X.out.c1
        have l2 := H9X.out.c2
        have l9 := H9X.out.lt
        have f0 := H9X.out.frozen 0
        have f1 := H9X.out.frozen 1
        have f2 := H9X.out.frozen 2
        cases g : x.gone
        ·
          rw [g] at n5
          have hat1 : (x.at_ == x.at_) = true := beq_self_eq_true _
          cases d1 : (x.value == lv.value)
          ·
            have HU2 := Lib.hid (HST.out.2 (by intro h; rw [h.1] at d1; simp at d1))
            rw [g] at HU2
            clear HST
            have HA1 := Lib.hid ((al1 X (.cells #[.int .i64 x.at_, .int .i64 x.value, .bool true] 44)).up (al1 _ (.cells #[.int .i64 x.at_, .int .i64 lv.value, .bool lv.ok] 44)))
            have HO2 := Lib.hid (HOX.out.upb HA1.out)
            have H92 := Lib.hid (H9X.out.upb HA1.out)
            have HK2 := Lib.hid (HKX.out.up HA1.out)
            have HSX := Lib.hid ((BoxS.new X ⟨x.at_, x.value, true⟩).upb (al1 _ (.cells #[.int .i64 x.at_, .int .i64 lv.value, .bool lv.ok] 44)))
            have hsl : s.length ≤ 1000000 := by have := HSL.out; omega
            have hsz : w3.heap.size + 1 ≤ ((X.alloc (.cells #[.int .i64 x.at_, .int .i64 x.value, .bool true] 44)).alloc (.cells #[.int .i64 x.at_, .int .i64 lv.value, .bool lv.ok] 44)).heap.size := by simp; omega
            have hrow : ∀ g', u6.ownBlock = some g' → w3.heap.size + 1 ≤ g' ∧ g' < X.heap.size := fun g' hg' => OwnSs.at HOX.out g' hg'
            have HROW := Lib.hid hrow
            clear hrow
            go_wp2_with (at_builtin; go_must (refine wpList_pushS rfl (.tmp 73) (.tmp 75) rfl (w3.heap.size + 1) _ s rfl HO2.out ⟨x.at_, x.value, true⟩ (X.heap.size + 1 + 1) (by simp) rfl hsl hsz ?_); intro v1 w5 hown1 hg1 hat1; have HO3 := Lib.hid hown1; have HK5 := Lib.hid (HK2.out.grown hg1 HK2.out.size (fun g' hg' => by have := (HROW.out g' hg').1; omega)); have H95 := Lib.hid (show BoxS w5 w3.heap.size lv from (hg1.block _ H92.out.lt (fun e => by have := (HROW.out _ e.symm).1; omega)).trans H92.out); have HS5 := Lib.hid (show BoxS w5 X.heap.size ⟨x.at_, x.value, true⟩ from (hg1.block _ HSX.out.lt (fun e => by have := (HROW.out _ e.symm).2; omega)).trans HSX.out); clear hown1 hat1 hg1; have m0 := HS5.out.c0; have m1 := HS5.out.c1; have m2 := HS5.out.c2; have o0 := H95.out.c0; have o1 := H95.out.c1; have o2 := H95.out.c2; have g0 := H95.out.frozen 0; have g1 := H95.out.frozen 1; have g2 := H95.out.frozen 2; have l5 := H95.out.lt)
            have HO6 := Lib.hid (OwnSs.setS HO3.out (B := w3.heap.size) (by omega) ⟨x.at_, x.value, true⟩)
            have H96 := Lib.hid (H95.out.setS ⟨x.at_, x.value, true⟩)
            have HK6 := Lib.hid (below_setS HK5.out (B := w3.heap.size) (Nat.le_refl _) ⟨x.at_, x.value, true⟩)
            unfold setS at HO6 H96 HK6
            clear m0 m1 m2 o0 o1 o2 g0 g1 g2 l5 HO3 HK5 H95 HS5 HO2 H92 HK2 HSX HA1
            go_roundw
            case rel => exact ⟨k + 1, x.at_, s ++ [⟨x.at_, x.value, true⟩], ⟨x.at_, x.value, true⟩, by go_num, by omega, HU2, HO6, H96, Lib.hid (by have := HSL.out; simp; omega), HK6⟩
            case measure => first | omega | (simp [intOf]; omega)
          ·
            cases d2 : (true == lv.ok)
            ·
              have HU2 := Lib.hid (HST.out.2 (by rintro ⟨_, h2⟩; rw [g] at h2; revert d2 h2; cases lv.ok <;> simp))
              rw [g] at HU2
              clear HST
              have HA1 := Lib.hid ((al1 X (.cells #[.int .i64 x.at_, .int .i64 x.value, .bool true] 44)).up (al1 _ (.cells #[.int .i64 x.at_, .int .i64 lv.value, .bool lv.ok] 44)))
              have HO2 := Lib.hid (HOX.out.upb HA1.out)
              have H92 := Lib.hid (H9X.out.upb HA1.out)
              have HK2 := Lib.hid (HKX.out.up HA1.out)
              have HSX := Lib.hid ((BoxS.new X ⟨x.at_, x.value, true⟩).upb (al1 _ (.cells #[.int .i64 x.at_, .int .i64 lv.value, .bool lv.ok] 44)))
              have hsl : s.length ≤ 1000000 := by have := HSL.out; omega
              have hsz : w3.heap.size + 1 ≤ ((X.alloc (.cells #[.int .i64 x.at_, .int .i64 x.value, .bool true] 44)).alloc (.cells #[.int .i64 x.at_, .int .i64 lv.value, .bool lv.ok] 44)).heap.size := by simp; omega
              have hrow : ∀ g', u6.ownBlock = some g' → w3.heap.size + 1 ≤ g' ∧ g' < X.heap.size := fun g' hg' => OwnSs.at HOX.out g' hg'
              have HROW := Lib.hid hrow
              clear hrow
              go_wp2_with (at_builtin; go_must (refine wpList_pushS rfl (.tmp 73) (.tmp 75) rfl (w3.heap.size + 1) _ s rfl HO2.out ⟨x.at_, x.value, true⟩ (X.heap.size + 1 + 1) (by simp) rfl hsl hsz ?_); intro v1 w5 hown1 hg1 hat1; have HO3 := Lib.hid hown1; have HK5 := Lib.hid (HK2.out.grown hg1 HK2.out.size (fun g' hg' => by have := (HROW.out g' hg').1; omega)); have H95 := Lib.hid (show BoxS w5 w3.heap.size lv from (hg1.block _ H92.out.lt (fun e => by have := (HROW.out _ e.symm).1; omega)).trans H92.out); have HS5 := Lib.hid (show BoxS w5 X.heap.size ⟨x.at_, x.value, true⟩ from (hg1.block _ HSX.out.lt (fun e => by have := (HROW.out _ e.symm).2; omega)).trans HSX.out); clear hown1 hat1 hg1; have m0 := HS5.out.c0; have m1 := HS5.out.c1; have m2 := HS5.out.c2; have o0 := H95.out.c0; have o1 := H95.out.c1; have o2 := H95.out.c2; have g0 := H95.out.frozen 0; have g1 := H95.out.frozen 1; have g2 := H95.out.frozen 2; have l5 := H95.out.lt)
              have HO6 := Lib.hid (OwnSs.setS HO3.out (B := w3.heap.size) (by omega) ⟨x.at_, x.value, true⟩)
              have H96 := Lib.hid (H95.out.setS ⟨x.at_, x.value, true⟩)
              have HK6 := Lib.hid (below_setS HK5.out (B := w3.heap.size) (Nat.le_refl _) ⟨x.at_, x.value, true⟩)
              unfold setS at HO6 H96 HK6
              clear m0 m1 m2 o0 o1 o2 g0 g1 g2 l5 HO3 HK5 H95 HS5 HO2 H92 HK2 HSX HA1
              go_roundw
              case rel => exact ⟨k + 1, x.at_, s ++ [⟨x.at_, x.value, true⟩], ⟨x.at_, x.value, true⟩, by go_num, by omega, HU2, HO6, H96, Lib.hid (by have := HSL.out; simp; omega), HK6⟩
              case measure => first | omega | (simp [intOf]; omega)
            ·
              have HU2 := Lib.hid (HST.out.1 ⟨by simpa using d1, by rw [g]; simpa using d2⟩)
              clear HST
              have HA1 := Lib.hid ((al1 X (.cells #[.int .i64 x.at_, .int .i64 x.value, .bool true] 44)).up (al1 _ (.cells #[.int .i64 x.at_, .int .i64 lv.value, .bool lv.ok] 44)))
              have HO2 := Lib.hid (HOX.out.upb HA1.out)
              have H92 := Lib.hid (H9X.out.upb HA1.out)
              have HK2 := Lib.hid (HKX.out.up HA1.out)
              go_wp2_with (fail)
              go_roundw
              case rel => exact ⟨k + 1, x.at_, s, lv, by go_num, by omega, HU2, HO2, H92, Lib.hid (by have := HSL.out; omega), HK2⟩
              case measure => first | omega | (simp [intOf]; omega)
        ·
          rw [g] at n5
          have hat1 : (x.at_ == x.at_) = true := beq_self_eq_true _
          cases d1 : (x.value == lv.value)
          ·
            have HU2 := Lib.hid (HST.out.2 (by intro h; rw [h.1] at d1; simp at d1))
            rw [g] at HU2
            clear HST
            have HA1 := Lib.hid ((al1 X (.cells #[.int .i64 x.at_, .int .i64 x.value, .bool false] 44)).up (al1 _ (.cells #[.int .i64 x.at_, .int .i64 lv.value, .bool lv.ok] 44)))
            have HO2 := Lib.hid (HOX.out.upb HA1.out)
            have H92 := Lib.hid (H9X.out.upb HA1.out)
            have HK2 := Lib.hid (HKX.out.up HA1.out)
            have HSX := Lib.hid ((BoxS.new X ⟨x.at_, x.value, false⟩).upb (al1 _ (.cells #[.int .i64 x.at_, .int .i64 lv.value, .bool lv.ok] 44)))
            have hsl : s.length ≤ 1000000 := by have := HSL.out; omega
            have hsz : w3.heap.size + 1 ≤ ((X.alloc (.cells #[.int .i64 x.at_, .int .i64 x.value, .bool false] 44)).alloc (.cells #[.int .i64 x.at_, .int .i64 lv.value, .bool lv.ok] 44)).heap.size := by simp; omega
            have hrow : ∀ g', u6.ownBlock = some g' → w3.heap.size + 1 ≤ g' ∧ g' < X.heap.size := fun g' hg' => OwnSs.at HOX.out g' hg'
            have HROW := Lib.hid hrow
            clear hrow
            go_wp2_with (at_builtin; go_must (refine wpList_pushS rfl (.tmp 73) (.tmp 75) rfl (w3.heap.size + 1) _ s rfl HO2.out ⟨x.at_, x.value, false⟩ (X.heap.size + 1 + 1) (by simp) rfl hsl hsz ?_); intro v1 w5 hown1 hg1 hat1; have HO3 := Lib.hid hown1; have HK5 := Lib.hid (HK2.out.grown hg1 HK2.out.size (fun g' hg' => by have := (HROW.out g' hg').1; omega)); have H95 := Lib.hid (show BoxS w5 w3.heap.size lv from (hg1.block _ H92.out.lt (fun e => by have := (HROW.out _ e.symm).1; omega)).trans H92.out); have HS5 := Lib.hid (show BoxS w5 X.heap.size ⟨x.at_, x.value, false⟩ from (hg1.block _ HSX.out.lt (fun e => by have := (HROW.out _ e.symm).2; omega)).trans HSX.out); clear hown1 hat1 hg1; have m0 := HS5.out.c0; have m1 := HS5.out.c1; have m2 := HS5.out.c2; have o0 := H95.out.c0; have o1 := H95.out.c1; have o2 := H95.out.c2; have g0 := H95.out.frozen 0; have g1 := H95.out.frozen 1; have g2 := H95.out.frozen 2; have l5 := H95.out.lt)
            have HO6 := Lib.hid (OwnSs.setS HO3.out (B := w3.heap.size) (by omega) ⟨x.at_, x.value, false⟩)
            have H96 := Lib.hid (H95.out.setS ⟨x.at_, x.value, false⟩)
            have HK6 := Lib.hid (below_setS HK5.out (B := w3.heap.size) (Nat.le_refl _) ⟨x.at_, x.value, false⟩)
            unfold setS at HO6 H96 HK6
            clear m0 m1 m2 o0 o1 o2 g0 g1 g2 l5 HO3 HK5 H95 HS5 HO2 H92 HK2 HSX HA1
            go_roundw
            case rel => exact ⟨k + 1, x.at_, s ++ [⟨x.at_, x.value, false⟩], ⟨x.at_, x.value, false⟩, by go_num, by omega, HU2, HO6, H96, Lib.hid (by have := HSL.out; simp; omega), HK6⟩
            case measure => first | omega | (simp [intOf]; omega)
          ·
            cases d2 : (false == lv.ok)
            ·
              have HU2 := Lib.hid (HST.out.2 (by rintro ⟨_, h2⟩; rw [g] at h2; revert d2 h2; cases lv.ok <;> simp))
              rw [g] at HU2
              clear HST
              have HA1 := Lib.hid ((al1 X (.cells #[.int .i64 x.at_, .int .i64 x.value, .bool false] 44)).up (al1 _ (.cells #[.int .i64 x.at_, .int .i64 lv.value, .bool lv.ok] 44)))
              have HO2 := Lib.hid (HOX.out.upb HA1.out)
              have H92 := Lib.hid (H9X.out.upb HA1.out)
              have HK2 := Lib.hid (HKX.out.up HA1.out)
              have HSX := Lib.hid ((BoxS.new X ⟨x.at_, x.value, false⟩).upb (al1 _ (.cells #[.int .i64 x.at_, .int .i64 lv.value, .bool lv.ok] 44)))
              have hsl : s.length ≤ 1000000 := by have := HSL.out; omega
              have hsz : w3.heap.size + 1 ≤ ((X.alloc (.cells #[.int .i64 x.at_, .int .i64 x.value, .bool false] 44)).alloc (.cells #[.int .i64 x.at_, .int .i64 lv.value, .bool lv.ok] 44)).heap.size := by simp; omega
              have hrow : ∀ g', u6.ownBlock = some g' → w3.heap.size + 1 ≤ g' ∧ g' < X.heap.size := fun g' hg' => OwnSs.at HOX.out g' hg'
              have HROW := Lib.hid hrow
              clear hrow
              go_wp2_with (at_builtin; go_must (refine wpList_pushS rfl (.tmp 73) (.tmp 75) rfl (w3.heap.size + 1) _ s rfl HO2.out ⟨x.at_, x.value, false⟩ (X.heap.size + 1 + 1) (by simp) rfl hsl hsz ?_); intro v1 w5 hown1 hg1 hat1; have HO3 := Lib.hid hown1; have HK5 := Lib.hid (HK2.out.grown hg1 HK2.out.size (fun g' hg' => by have := (HROW.out g' hg').1; omega)); have H95 := Lib.hid (show BoxS w5 w3.heap.size lv from (hg1.block _ H92.out.lt (fun e => by have := (HROW.out _ e.symm).1; omega)).trans H92.out); have HS5 := Lib.hid (show BoxS w5 X.heap.size ⟨x.at_, x.value, false⟩ from (hg1.block _ HSX.out.lt (fun e => by have := (HROW.out _ e.symm).2; omega)).trans HSX.out); clear hown1 hat1 hg1; have m0 := HS5.out.c0; have m1 := HS5.out.c1; have m2 := HS5.out.c2; have o0 := H95.out.c0; have o1 := H95.out.c1; have o2 := H95.out.c2; have g0 := H95.out.frozen 0; have g1 := H95.out.frozen 1; have g2 := H95.out.frozen 2; have l5 := H95.out.lt)
              have HO6 := Lib.hid (OwnSs.setS HO3.out (B := w3.heap.size) (by omega) ⟨x.at_, x.value, false⟩)
              have H96 := Lib.hid (H95.out.setS ⟨x.at_, x.value, false⟩)
              have HK6 := Lib.hid (below_setS HK5.out (B := w3.heap.size) (Nat.le_refl _) ⟨x.at_, x.value, false⟩)
              unfold setS at HO6 H96 HK6
              clear m0 m1 m2 o0 o1 o2 g0 g1 g2 l5 HO3 HK5 H95 HS5 HO2 H92 HK2 HSX HA1
              go_roundw
              case rel => exact ⟨k + 1, x.at_, s ++ [⟨x.at_, x.value, false⟩], ⟨x.at_, x.value, false⟩, by go_num, by omega, HU2, HO6, H96, Lib.hid (by have := HSL.out; simp; omega), HK6⟩
              case measure => first | omega | (simp [intOf]; omega)
            ·
              have HU2 := Lib.hid (HST.out.1 ⟨by simpa using d1, by rw [g]; simpa using d2⟩)
              clear HST
              have HA1 := Lib.hid ((al1 X (.cells #[.int .i64 x.at_, .int .i64 x.value, .bool false] 44)).up (al1 _ (.cells #[.int .i64 x.at_, .int .i64 lv.value, .bool lv.ok] 44)))
              have HO2 := Lib.hid (HOX.out.upb HA1.out)
              have H92 := Lib.hid (H9X.out.upb HA1.out)
              have HK2 := Lib.hid (HKX.out.up HA1.out)
              go_wp2_with (fail)
              go_roundw
              case rel => exact ⟨k + 1, x.at_, s, lv, by go_num, by omega, HU2, HO2, H92, Lib.hid (by have := HSL.out; omega), HK2⟩
              case measure => first | omega | (simp [intOf]; omega)

      · have HEQ := Lib.hid (show a[k + 1].at_ = x.at_ by rw [hya]; simpa using dq)
        clear hya
        have HSK := Lib.hid (HSKIP.out hk2 HEQ.out)
        clear HSKIP HSTEP
        go_quiet (fail)
        go_wp2_with (fail)
        go_roundw
        case rel => exact ⟨k + 1, t, s, lv, by go_num, by omega, HSK, HO1, H91, Lib.hid (by have := HSL.out; omega), Lib.hid (below_drewN HK1.out _)⟩
        case measure => first | omega | (simp [intOf]; omega)

    case neg =>
      have hd2 : decide ((k : Int) + 1 < (a.length : Int)) = false := decide_eq_false (by omega)
      have HNE := Lib.hid (show ∀ h : k + 1 < a.length, a[k + 1].at_ ≠ x.at_ from fun h => absurd h hk2)
      have HST := Lib.hid (HSTEP.out HNE.out)
      clear HSKIP HSTEP HNE
      go_quiet (fail)
      obtain ⟨X, hX⟩ : ∃ X, X0.drewN nq = X := ⟨_, rfl⟩
      have HNX := Lib.hid (HN.out.drewN nq)
      have H9X := Lib.hid (H91.out.drewN nq)
      have HOX := Lib.hid (HO1.out.drewN nq)
      have HKX := Lib.hid (below_drewN HK1.out nq)
      simp only [hX] at HNX H9X HOX HKX ⊢
      clear hX HN H91 HO1 HK1 n1 ln
      have n1 := HNX.out.c1
      have n4 := HNX.out.c4
      have n5 := HNX.out.c5
      have ln := HNX.out.lt
      have l0 := H9X.out.c0
      have l1 := H9X.out.c1
      have l2 := H9X.out.c2
      have l9 := H9X.out.lt
      have f0 := H9X.out.frozen 0
      have f1 := H9X.out.frozen 1
      have f2 := H9X.out.frozen 2
      cases g : x.gone
      ·
        rw [g] at n5
        have hat1 : (x.at_ == x.at_) = true := beq_self_eq_true _
        cases d1 : (x.value == lv.value)
        ·
          have HU2 := Lib.hid (HST.out.2 (by intro h; rw [h.1] at d1; simp at d1))
          rw [g] at HU2
          clear HST
          have HA1 := Lib.hid ((al1 X (.cells #[.int .i64 x.at_, .int .i64 x.value, .bool true] 44)).up (al1 _ (.cells #[.int .i64 x.at_, .int .i64 lv.value, .bool lv.ok] 44)))
          have HO2 := Lib.hid (HOX.out.upb HA1.out)
          have H92 := Lib.hid (H9X.out.upb HA1.out)
          have HK2 := Lib.hid (HKX.out.up HA1.out)
          have HSX := Lib.hid ((BoxS.new X ⟨x.at_, x.value, true⟩).upb (al1 _ (.cells #[.int .i64 x.at_, .int .i64 lv.value, .bool lv.ok] 44)))
          have hsl : s.length ≤ 1000000 := by have := HSL.out; omega
          have hsz : w3.heap.size + 1 ≤ ((X.alloc (.cells #[.int .i64 x.at_, .int .i64 x.value, .bool true] 44)).alloc (.cells #[.int .i64 x.at_, .int .i64 lv.value, .bool lv.ok] 44)).heap.size := by simp; omega
          have hrow : ∀ g', u6.ownBlock = some g' → w3.heap.size + 1 ≤ g' ∧ g' < X.heap.size := fun g' hg' => OwnSs.at HOX.out g' hg'
          have HROW := Lib.hid hrow
          clear hrow
          go_wp2_with (at_builtin; go_must (refine wpList_pushS rfl (.tmp 73) (.tmp 75) rfl (w3.heap.size + 1) _ s rfl HO2.out ⟨x.at_, x.value, true⟩ (X.heap.size + 1 + 1) (by simp) rfl hsl hsz ?_); intro v1 w5 hown1 hg1 hat1; have HO3 := Lib.hid hown1; have HK5 := Lib.hid (HK2.out.grown hg1 HK2.out.size (fun g' hg' => by have := (HROW.out g' hg').1; omega)); have H95 := Lib.hid (show BoxS w5 w3.heap.size lv from (hg1.block _ H92.out.lt (fun e => by have := (HROW.out _ e.symm).1; omega)).trans H92.out); have HS5 := Lib.hid (show BoxS w5 X.heap.size ⟨x.at_, x.value, true⟩ from (hg1.block _ HSX.out.lt (fun e => by have := (HROW.out _ e.symm).2; omega)).trans HSX.out); clear hown1 hat1 hg1; have m0 := HS5.out.c0; have m1 := HS5.out.c1; have m2 := HS5.out.c2; have o0 := H95.out.c0; have o1 := H95.out.c1; have o2 := H95.out.c2; have g0 := H95.out.frozen 0; have g1 := H95.out.frozen 1; have g2 := H95.out.frozen 2; have l5 := H95.out.lt)
          have HO6 := Lib.hid (OwnSs.setS HO3.out (B := w3.heap.size) (by omega) ⟨x.at_, x.value, true⟩)
          have H96 := Lib.hid (H95.out.setS ⟨x.at_, x.value, true⟩)
          have HK6 := Lib.hid (below_setS HK5.out (B := w3.heap.size) (Nat.le_refl _) ⟨x.at_, x.value, true⟩)
          unfold setS at HO6 H96 HK6
          clear m0 m1 m2 o0 o1 o2 g0 g1 g2 l5 HO3 HK5 H95 HS5 HO2 H92 HK2 HSX HA1
          go_roundw
          case rel => exact ⟨k + 1, x.at_, s ++ [⟨x.at_, x.value, true⟩], ⟨x.at_, x.value, true⟩, by go_num, by omega, HU2, HO6, H96, Lib.hid (by have := HSL.out; simp; omega), HK6⟩
          case measure => first | omega | (simp [intOf]; omega)
        ·
          cases d2 : (true == lv.ok)
          ·
            have HU2 := Lib.hid (HST.out.2 (by rintro ⟨_, h2⟩; rw [g] at h2; revert d2 h2; cases lv.ok <;> simp))
            rw [g] at HU2
            clear HST
            have HA1 := Lib.hid ((al1 X (.cells #[.int .i64 x.at_, .int .i64 x.value, .bool true] 44)).up (al1 _ (.cells #[.int .i64 x.at_, .int .i64 lv.value, .bool lv.ok] 44)))
            have HO2 := Lib.hid (HOX.out.upb HA1.out)
            have H92 := Lib.hid (H9X.out.upb HA1.out)
            have HK2 := Lib.hid (HKX.out.up HA1.out)
            have HSX := Lib.hid ((BoxS.new X ⟨x.at_, x.value, true⟩).upb (al1 _ (.cells #[.int .i64 x.at_, .int .i64 lv.value, .bool lv.ok] 44)))
            have hsl : s.length ≤ 1000000 := by have := HSL.out; omega
            have hsz : w3.heap.size + 1 ≤ ((X.alloc (.cells #[.int .i64 x.at_, .int .i64 x.value, .bool true] 44)).alloc (.cells #[.int .i64 x.at_, .int .i64 lv.value, .bool lv.ok] 44)).heap.size := by simp; omega
            have hrow : ∀ g', u6.ownBlock = some g' → w3.heap.size + 1 ≤ g' ∧ g' < X.heap.size := fun g' hg' => OwnSs.at HOX.out g' hg'
            have HROW := Lib.hid hrow
            clear hrow
            go_wp2_with (at_builtin; go_must (refine wpList_pushS rfl (.tmp 73) (.tmp 75) rfl (w3.heap.size + 1) _ s rfl HO2.out ⟨x.at_, x.value, true⟩ (X.heap.size + 1 + 1) (by simp) rfl hsl hsz ?_); intro v1 w5 hown1 hg1 hat1; have HO3 := Lib.hid hown1; have HK5 := Lib.hid (HK2.out.grown hg1 HK2.out.size (fun g' hg' => by have := (HROW.out g' hg').1; omega)); have H95 := Lib.hid (show BoxS w5 w3.heap.size lv from (hg1.block _ H92.out.lt (fun e => by have := (HROW.out _ e.symm).1; omega)).trans H92.out); have HS5 := Lib.hid (show BoxS w5 X.heap.size ⟨x.at_, x.value, true⟩ from (hg1.block _ HSX.out.lt (fun e => by have := (HROW.out _ e.symm).2; omega)).trans HSX.out); clear hown1 hat1 hg1; have m0 := HS5.out.c0; have m1 := HS5.out.c1; have m2 := HS5.out.c2; have o0 := H95.out.c0; have o1 := H95.out.c1; have o2 := H95.out.c2; have g0 := H95.out.frozen 0; have g1 := H95.out.frozen 1; have g2 := H95.out.frozen 2; have l5 := H95.out.lt)
            have HO6 := Lib.hid (OwnSs.setS HO3.out (B := w3.heap.size) (by omega) ⟨x.at_, x.value, true⟩)
            have H96 := Lib.hid (H95.out.setS ⟨x.at_, x.value, true⟩)
            have HK6 := Lib.hid (below_setS HK5.out (B := w3.heap.size) (Nat.le_refl _) ⟨x.at_, x.value, true⟩)
            unfold setS at HO6 H96 HK6
            clear m0 m1 m2 o0 o1 o2 g0 g1 g2 l5 HO3 HK5 H95 HS5 HO2 H92 HK2 HSX HA1
            go_roundw
            case rel => exact ⟨k + 1, x.at_, s ++ [⟨x.at_, x.value, true⟩], ⟨x.at_, x.value, true⟩, by go_num, by omega, HU2, HO6, H96, Lib.hid (by have := HSL.out; simp; omega), HK6⟩
            case measure => first | omega | (simp [intOf]; omega)
          ·
            have HU2 := Lib.hid (HST.out.1 ⟨by simpa using d1, by rw [g]; simpa using d2⟩)
            clear HST
            have HA1 := Lib.hid ((al1 X (.cells #[.int .i64 x.at_, .int .i64 x.value, .bool true] 44)).up (al1 _ (.cells #[.int .i64 x.at_, .int .i64 lv.value, .bool lv.ok] 44)))
            have HO2 := Lib.hid (HOX.out.upb HA1.out)
            have H92 := Lib.hid (H9X.out.upb HA1.out)
            have HK2 := Lib.hid (HKX.out.up HA1.out)
            go_wp2_with (fail)
            go_roundw
            case rel => exact ⟨k + 1, x.at_, s, lv, by go_num, by omega, HU2, HO2, H92, Lib.hid (by have := HSL.out; omega), HK2⟩
            case measure => first | omega | (simp [intOf]; omega)
      ·
        rw [g] at n5
        have hat1 : (x.at_ == x.at_) = true := beq_self_eq_true _
        cases d1 : (x.value == lv.value)
        ·
          have HU2 := Lib.hid (HST.out.2 (by intro h; rw [h.1] at d1; simp at d1))
          rw [g] at HU2
          clear HST
          have HA1 := Lib.hid ((al1 X (.cells #[.int .i64 x.at_, .int .i64 x.value, .bool false] 44)).up (al1 _ (.cells #[.int .i64 x.at_, .int .i64 lv.value, .bool lv.ok] 44)))
          have HO2 := Lib.hid (HOX.out.upb HA1.out)
          have H92 := Lib.hid (H9X.out.upb HA1.out)
          have HK2 := Lib.hid (HKX.out.up HA1.out)
          have HSX := Lib.hid ((BoxS.new X ⟨x.at_, x.value, false⟩).upb (al1 _ (.cells #[.int .i64 x.at_, .int .i64 lv.value, .bool lv.ok] 44)))
          have hsl : s.length ≤ 1000000 := by have := HSL.out; omega
          have hsz : w3.heap.size + 1 ≤ ((X.alloc (.cells #[.int .i64 x.at_, .int .i64 x.value, .bool false] 44)).alloc (.cells #[.int .i64 x.at_, .int .i64 lv.value, .bool lv.ok] 44)).heap.size := by simp; omega
          have hrow : ∀ g', u6.ownBlock = some g' → w3.heap.size + 1 ≤ g' ∧ g' < X.heap.size := fun g' hg' => OwnSs.at HOX.out g' hg'
          have HROW := Lib.hid hrow
          clear hrow
          go_wp2_with (at_builtin; go_must (refine wpList_pushS rfl (.tmp 73) (.tmp 75) rfl (w3.heap.size + 1) _ s rfl HO2.out ⟨x.at_, x.value, false⟩ (X.heap.size + 1 + 1) (by simp) rfl hsl hsz ?_); intro v1 w5 hown1 hg1 hat1; have HO3 := Lib.hid hown1; have HK5 := Lib.hid (HK2.out.grown hg1 HK2.out.size (fun g' hg' => by have := (HROW.out g' hg').1; omega)); have H95 := Lib.hid (show BoxS w5 w3.heap.size lv from (hg1.block _ H92.out.lt (fun e => by have := (HROW.out _ e.symm).1; omega)).trans H92.out); have HS5 := Lib.hid (show BoxS w5 X.heap.size ⟨x.at_, x.value, false⟩ from (hg1.block _ HSX.out.lt (fun e => by have := (HROW.out _ e.symm).2; omega)).trans HSX.out); clear hown1 hat1 hg1; have m0 := HS5.out.c0; have m1 := HS5.out.c1; have m2 := HS5.out.c2; have o0 := H95.out.c0; have o1 := H95.out.c1; have o2 := H95.out.c2; have g0 := H95.out.frozen 0; have g1 := H95.out.frozen 1; have g2 := H95.out.frozen 2; have l5 := H95.out.lt)
          have HO6 := Lib.hid (OwnSs.setS HO3.out (B := w3.heap.size) (by omega) ⟨x.at_, x.value, false⟩)
          have H96 := Lib.hid (H95.out.setS ⟨x.at_, x.value, false⟩)
          have HK6 := Lib.hid (below_setS HK5.out (B := w3.heap.size) (Nat.le_refl _) ⟨x.at_, x.value, false⟩)
          unfold setS at HO6 H96 HK6
          clear m0 m1 m2 o0 o1 o2 g0 g1 g2 l5 HO3 HK5 H95 HS5 HO2 H92 HK2 HSX HA1
          go_roundw
          case rel => exact ⟨k + 1, x.at_, s ++ [⟨x.at_, x.value, false⟩], ⟨x.at_, x.value, false⟩, by go_num, by omega, HU2, HO6, H96, Lib.hid (by have := HSL.out; simp; omega), HK6⟩
          case measure => first | omega | (simp [intOf]; omega)
        ·
          cases d2 : (false == lv.ok)
          ·
            have HU2 := Lib.hid (HST.out.2 (by rintro ⟨_, h2⟩; rw [g] at h2; revert d2 h2; cases lv.ok <;> simp))
            rw [g] at HU2
            clear HST
            have HA1 := Lib.hid ((al1 X (.cells #[.int .i64 x.at_, .int .i64 x.value, .bool false] 44)).up (al1 _ (.cells #[.int .i64 x.at_, .int .i64 lv.value, .bool lv.ok] 44)))
            have HO2 := Lib.hid (HOX.out.upb HA1.out)
            have H92 := Lib.hid (H9X.out.upb HA1.out)
            have HK2 := Lib.hid (HKX.out.up HA1.out)
            have HSX := Lib.hid ((BoxS.new X ⟨x.at_, x.value, false⟩).upb (al1 _ (.cells #[.int .i64 x.at_, .int .i64 lv.value, .bool lv.ok] 44)))
            have hsl : s.length ≤ 1000000 := by have := HSL.out; omega
            have hsz : w3.heap.size + 1 ≤ ((X.alloc (.cells #[.int .i64 x.at_, .int .i64 x.value, .bool false] 44)).alloc (.cells #[.int .i64 x.at_, .int .i64 lv.value, .bool lv.ok] 44)).heap.size := by simp; omega
            have hrow : ∀ g', u6.ownBlock = some g' → w3.heap.size + 1 ≤ g' ∧ g' < X.heap.size := fun g' hg' => OwnSs.at HOX.out g' hg'
            have HROW := Lib.hid hrow
            clear hrow
            go_wp2_with (at_builtin; go_must (refine wpList_pushS rfl (.tmp 73) (.tmp 75) rfl (w3.heap.size + 1) _ s rfl HO2.out ⟨x.at_, x.value, false⟩ (X.heap.size + 1 + 1) (by simp) rfl hsl hsz ?_); intro v1 w5 hown1 hg1 hat1; have HO3 := Lib.hid hown1; have HK5 := Lib.hid (HK2.out.grown hg1 HK2.out.size (fun g' hg' => by have := (HROW.out g' hg').1; omega)); have H95 := Lib.hid (show BoxS w5 w3.heap.size lv from (hg1.block _ H92.out.lt (fun e => by have := (HROW.out _ e.symm).1; omega)).trans H92.out); have HS5 := Lib.hid (show BoxS w5 X.heap.size ⟨x.at_, x.value, false⟩ from (hg1.block _ HSX.out.lt (fun e => by have := (HROW.out _ e.symm).2; omega)).trans HSX.out); clear hown1 hat1 hg1; have m0 := HS5.out.c0; have m1 := HS5.out.c1; have m2 := HS5.out.c2; have o0 := H95.out.c0; have o1 := H95.out.c1; have o2 := H95.out.c2; have g0 := H95.out.frozen 0; have g1 := H95.out.frozen 1; have g2 := H95.out.frozen 2; have l5 := H95.out.lt)
            have HO6 := Lib.hid (OwnSs.setS HO3.out (B := w3.heap.size) (by omega) ⟨x.at_, x.value, false⟩)
            have H96 := Lib.hid (H95.out.setS ⟨x.at_, x.value, false⟩)
            have HK6 := Lib.hid (below_setS HK5.out (B := w3.heap.size) (Nat.le_refl _) ⟨x.at_, x.value, false⟩)
            unfold setS at HO6 H96 HK6
            clear m0 m1 m2 o0 o1 o2 g0 g1 g2 l5 HO3 HK5 H95 HS5 HO2 H92 HK2 HSX HA1
            go_roundw
            case rel => exact ⟨k + 1, x.at_, s ++ [⟨x.at_, x.value, false⟩], ⟨x.at_, x.value, false⟩, by go_num, by omega, HU2, HO6, H96, Lib.hid (by have := HSL.out; simp; omega), HK6⟩
            case measure => first | omega | (simp [intOf]; omega)
          ·
            have HU2 := Lib.hid (HST.out.1 ⟨by simpa using d1, by rw [g]; simpa using d2⟩)
            clear HST
            have HA1 := Lib.hid ((al1 X (.cells #[.int .i64 x.at_, .int .i64 x.value, .bool false] 44)).up (al1 _ (.cells #[.int .i64 x.at_, .int .i64 lv.value, .bool lv.ok] 44)))
            have HO2 := Lib.hid (HOX.out.upb HA1.out)
            have H92 := Lib.hid (H9X.out.upb HA1.out)
            have HK2 := Lib.hid (HKX.out.up HA1.out)
            go_wp2_with (fail)
            go_roundw
            case rel => exact ⟨k + 1, x.at_, s, lv, by go_num, by omega, HU2, HO2, H92, Lib.hid (by have := HSL.out; omega), HK2⟩
            case measure => first | omega | (simp [intOf]; omega)

end Go.Proofs.Ytcifhigeieoogaa

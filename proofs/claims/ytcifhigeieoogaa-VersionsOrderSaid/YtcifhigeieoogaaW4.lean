/- Walks of the comparisons: cmp.Compare, cmp.Or, byNo, byAt; of slices.BinarySearchFunc. -/
import Derived.Test.YtcifhigeieoogaaW3
import Derived.Deep.RegionHeld3
import Derived.Sort.Grow
namespace Go.Proofs.Ytcifhigeieoogaa
open Go.RowKit
set_option linter.unusedVariables false
set_option linter.unusedSimpArgs false
attribute [local go_sem] frozen_new
theorem isNaN_any (a : Int) (w : World) : Calls Try.prog 46 #[.int .i64 a] w fun e w' => e = .returned (.bool false) ∧ w = w' := by
  have h : (a != a) = false := by simp
  go_enter Try.func46, Try.ntmps46
  go_wp2_with (fail)
  go_ret
  exact ⟨rfl, rfl⟩
def cmpI (a b : Int) : Int := if a < b then -1 else if b < a then 1 else 0
theorem compare_any (a b : Int) (w : World) : Calls Try.prog 39 #[.int .i64 a, .int .i64 b] w fun e w' => e = .returned (.int .i64 (cmpI a b)) ∧ w = w' := by
  have key : ∀ x, cmpI a b = x → (decide (a < b) = true ∧ x = -1 ∨ decide (a < b) = false ∧ decide (b < a) = true ∧ x = 1 ∨ decide (a < b) = false ∧ decide (b < a) = false ∧ x = 0) := by
    intro x hx
    unfold cmpI at hx
    by_cases h1 : a < b
    · rw [if_pos h1] at hx; exact .inl ⟨decide_eq_true h1, hx.symm⟩
    · rw [if_neg h1] at hx
      by_cases h2 : b < a
      · rw [if_pos h2] at hx; exact .inr (.inl ⟨decide_eq_false h1, decide_eq_true h2, hx.symm⟩)
      · rw [if_neg h2] at hx; exact .inr (.inr ⟨decide_eq_false h1, decide_eq_false h2, hx.symm⟩)
  obtain ⟨x, hx⟩ : ∃ x, cmpI a b = x := ⟨_, rfl⟩
  rw [hx]
  rcases key x hx with ⟨h1, rfl⟩ | ⟨h1, h2, rfl⟩ | ⟨h1, h2, rfl⟩
  all_goals
    clear key hx
    go_enter Try.func39, Try.ntmps39
    go_wp2_with (fail)
    refine (isNaN_any _ _).mono ?_
    rintro e _ ⟨rfl, rfl⟩
    go_wp2_with (fail)
    refine (isNaN_any _ _).mono ?_
    rintro e _ ⟨rfl, rfl⟩
    go_wp2_with (fail)
    go_ret
    exact ⟨rfl, rfl⟩
theorem compare_is {a b c : Int} (h : cmpI a b = c) (w : World) : Calls Try.prog 39 #[.int .i64 a, .int .i64 b] w fun e w' => e = .returned (.int .i64 c) ∧ w = w' := by subst h; exact compare_any a b w
theorem cmpI_neg (a b : Int) : decide (cmpI a b < 0) = decide (a < b) := by
  unfold cmpI
  split
  · rename_i h; simp [h]
  · rename_i h; split <;> simp [h]
theorem cmpI_eq (a b : Int) : (cmpI a b == 0) = decide (a = b) := by
  unfold cmpI
  split
  · rename_i h; have : ¬ a = b := by omega
    simp [this]
  · split
    · rename_i h h2; have : ¬ a = b := by omega
      simp [this]
    · have : a = b := by omega
      simp [this]

/-- the first that is not zero -/
def orN : List Int → Int
  | [] => 0
  | x :: r => if x = 0 then orN r else x
set_option maxHeartbeats 1000000 in
theorem or_any (v : Value) (xs : List Int) (w : World) (hv : IsInts w v xs) (hl : xs.length ≤ 1000) : Calls Try.prog 43 #[v] w fun e w' => e = .returned (.int .i64 (orN xs)) ∧ w = w' := by
  obtain ⟨A, cap, rfl, hr⟩ := hv
  have HR := Lib.hid hr
  clear hr
  go_enter Try.func43, Try.ntmps43
  go_wp2
  go_loop [8] (fun i => ∃ k : Nat, k ≤ xs.length ∧ i = .int .i64 k ∧ Hid (orN xs = orN (xs.drop k))) (fun i => xs.length - (intOf i).toNat)
  case atStart => exact ⟨0, Nat.zero_le _, rfl, rfl⟩
  case round =>
    obtain ⟨k, hk, rfl, H⟩ := hrel
    by_cases hlt : k < xs.length
    · obtain ⟨b, off, rfl, hb, hc⟩ := HR.out (by intro h0; simp at h0; subst h0; simp at hlt)
      have q0 := hc k (by simpa using hlt)
      simp only [List.getElem_map] at q0
      have HS := Lib.hid (show orN xs = if xs[k] = 0 then orN (xs.drop (k + 1)) else xs[k] by rw [H.out, List.drop_eq_getElem_cons hlt, orN])
      generalize xs[k] = x at *
      clear hc
      by_cases hx : x = 0
      · have HE := Lib.hid (show orN xs = orN (xs.drop (k + 1)) by rw [HS.out, if_pos hx])
        subst hx
        go_wp2
        go_round
        case rel => exact ⟨k + 1, by omega, by go_num, HE⟩
        case measure => simp [intOf]; omega
      · have HE := Lib.hid (show orN xs = x by rw [HS.out, if_neg hx])
        have hd : (x != 0) = true := by rw [bne_iff_ne]; exact hx
        have hd2 : (x == 0) = false := by rw [beq_eq_false_iff_ne]; exact hx
        clear hx
        go_wp2
        go_ret
        exact ⟨ret_int HE.out.symm, rfl⟩
    · have HE := Lib.hid (show orN xs = 0 by rw [H.out, List.drop_eq_nil_of_le (by omega)]; rfl)
      go_wp2
      go_ret
      exact ⟨ret_int HE.out.symm, rfl⟩

/-- worlds with draws and new blocks alone -/
def Grew (w w' : World) : Prop := ∃ q os, w' = Go.Sort.grow (w.drewN q) os
theorem Grew.refl (w : World) : Grew w w := ⟨0, #[], by simp; rfl⟩
theorem Grew.alloc {w w' : World} (h : Grew w w') (o : Obj) : Grew w (w'.alloc o) := by
  obtain ⟨q, os, rfl⟩ := h
  exact ⟨q, os ++ #[o], by rw [Go.Sort.alloc_eq_grow, Go.Sort.grow_grow]⟩
theorem Grew.drewN {w w' : World} (h : Grew w w') (n : Nat) : Grew w (w'.drewN n) := by
  obtain ⟨q, os, rfl⟩ := h
  exact ⟨q + n, os, by rw [← World.drewN_drewN]; rfl⟩
theorem Grew.drew {w w' : World} (h : Grew w w') : Grew w w'.drew := h.drewN 1
theorem Grew.below {w w' : World} (h : Grew w w') : Below w.heap.size w w' := by
  obtain ⟨q, os, rfl⟩ := h
  refine ⟨rfl, rfl, rfl, by simp [Go.Sort.grow, World.drewN], fun b hb => ?_⟩
  have hb2 : b < (w.drewN q).heap.size := hb
  simp only [Go.Sort.grow]
  rw [Array.getElem?_append_left hb2]
  rfl

theorem byNo_any (x y : Am) (w : World) : Calls Try.prog 25 #[vA x, vA y] w fun e w' => e = .returned (.int .i64 (cmpI x.no y.no)) ∧ Below w.heap.size w w' := by
  have HX := Lib.hid ((BoxA.new w x).upb (al1 _ (.cells #[.int .i64 y.no, .int .i64 y.at_, .int .i64 y.known, .int .i64 y.key, .int .i64 y.value, .bool y.gone] 27)))
  have HY := Lib.hid (BoxA.new (w.alloc (.cells #[.int .i64 x.no, .int .i64 x.at_, .int .i64 x.known, .int .i64 x.key, .int .i64 x.value, .bool x.gone] 27)) y)
  have HW := Lib.hid ((al1 w (.cells #[.int .i64 x.no, .int .i64 x.at_, .int .i64 x.known, .int .i64 x.key, .int .i64 x.value, .bool x.gone] 27)).up (al1 _ (.cells #[.int .i64 y.no, .int .i64 y.at_, .int .i64 y.known, .int .i64 y.key, .int .i64 y.value, .bool y.gone] 27)))
  have q0 := HX.out.c0
  have p0 := HY.out.c0
  simp only [World.size_alloc] at p0
  have HC := Lib.hid (fun W => compare_any x.no y.no W)
  have hvv : vA x = vA x := rfl
  unfold vA
  clear hvv
  go_enter Try.func25, Try.ntmps25
  go_wp2_with (fail)
  refine (HC.out _).mono ?_
  rintro e _ ⟨rfl, rfl⟩
  go_wp2_with (fail)
  go_ret
  exact ⟨rfl, HW.out⟩
theorem byNo_is {x y : Am} {c : Int} (h : cmpI x.no y.no = c) (w : World) : Calls Try.prog 25 #[vA x, vA y] w fun e w' => e = .returned (.int .i64 c) ∧ Below w.heap.size w w' := by subst h; exact byNo_any x y w
/-- the order by time and number -/
def cfAt (x y : Am) : Int := orN [cmpI x.at_ y.at_, cmpI x.no y.no]
theorem two_ints (w : World) (a b : Int) : IsInts (w.alloc (.cells #[.int .i64 a, .int .i64 b] 3)) (.slice (some ⟨w.heap.size, 0, none⟩) 2 2) [a, b] := by
  refine ⟨_, 2, rfl, fun _ => ⟨w.heap.size, 0, rfl, by simp, fun i hi => ?_⟩⟩
  simp at hi
  rw [World.cell?_alloc_new]
  have : i = 0 ∨ i = 1 := by omega
  rcases this with rfl | rfl <;> simp
set_option maxHeartbeats 4000000 in
theorem byAt_any (x y : Am) (w : World) : Calls Try.prog 33 #[vA x, vA y] w fun e w' => e = .returned (.int .i64 (cfAt x y)) ∧ Grew w w' := by
  have HX := Lib.hid ((BoxA.new w x).upb (al1 _ (.cells #[.int .i64 y.no, .int .i64 y.at_, .int .i64 y.known, .int .i64 y.key, .int .i64 y.value, .bool y.gone] 27)))
  have HY := Lib.hid (BoxA.new (w.alloc (.cells #[.int .i64 x.no, .int .i64 x.at_, .int .i64 x.known, .int .i64 x.key, .int .i64 x.value, .bool x.gone] 27)) y)
  have HW := Lib.hid (((Grew.refl w).alloc (.cells #[.int .i64 x.no, .int .i64 x.at_, .int .i64 x.known, .int .i64 x.key, .int .i64 x.value, .bool x.gone] 27)).alloc (.cells #[.int .i64 y.no, .int .i64 y.at_, .int .i64 y.known, .int .i64 y.key, .int .i64 y.value, .bool y.gone] 27))
  have q0 := HX.out.c0
  have q1 := HX.out.c1
  have p0 := HY.out.c0
  have p1 := HY.out.c1
  simp only [World.size_alloc] at p0 p1
  have HE := Lib.hid (show cfAt x y = orN [cmpI x.at_ y.at_, cmpI x.no y.no] from rfl)
  have hvv : vA x = vA x := rfl
  unfold vA
  clear hvv
  go_enter Try.func33, Try.ntmps33
  go_wp2_with (fail)
  obtain ⟨W, hW⟩ : ∃ W, (w.alloc (.cells #[.int .i64 x.no, .int .i64 x.at_, .int .i64 x.known, .int .i64 x.key, .int .i64 x.value, .bool x.gone] 27)).alloc (.cells #[.int .i64 y.no, .int .i64 y.at_, .int .i64 y.known, .int .i64 y.key, .int .i64 y.value, .bool y.gone] 27) = W := ⟨_, rfl⟩
  rw [hW] at q0 q1 p0 p1 HW ⊢
  clear hW HX HY
  have l0 := cell_lt q0
  have l1 := cell_lt p0
  dsimp only at l0 l1
  go_region_held3 (fun X => X.cell? ⟨w.heap.size, 0, none⟩ = some (.int .i64 x.no) ∧ X.cell? ⟨w.heap.size, 1, none⟩ = some (.int .i64 x.at_) ∧ X.cell? ⟨w.heap.size + 1, 0, none⟩ = some (.int .i64 y.no) ∧ X.cell? ⟨w.heap.size + 1, 1, none⟩ = some (.int .i64 y.at_)) (go_keep)
    (first
      | (go_at_call 39
         refine (compare_any _ _ _).mono ?_
         rintro e _ ⟨rfl, rfl⟩)
      | (go_at_call 43
         refine (or_any _ [cmpI x.at_ y.at_, cmpI x.no y.no] _ (show IsInts (W.alloc (.cells #[.int .i64 (cmpI x.at_ y.at_), .int .i64 (cmpI x.no y.no)] 3)).drew _ _ from two_ints W _ _) (by simp)).mono ?_
         rintro e _ ⟨rfl, rfl⟩))
  all_goals
    go_wp2_with (fail)
    go_ret
    exact ⟨ret_int HE.out.symm, (HW.out.alloc _).drewN 1⟩
theorem byAt_is {x y : Am} {c : Int} (h : cfAt x y = c) (w : World) : Calls Try.prog 33 #[vA x, vA y] w fun e w' => e = .returned (.int .i64 c) ∧ Below w.heap.size w w' := by subst h; exact (byAt_any x y w).mono fun e w' h => ⟨h.1, h.2.below⟩
end Go.Proofs.Ytcifhigeieoogaa

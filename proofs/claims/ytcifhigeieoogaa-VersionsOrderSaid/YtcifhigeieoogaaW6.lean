/- Walk of slices.Insert of one amendment where the row has no room. -/
import Derived.Test.YtcifhigeieoogaaW5
import Derived.Lib.AppendZeros
import Derived.Lib.AppendZerosOnto
namespace Go.Proofs.Ytcifhigeieoogaa
open Go.RowKit
set_option linter.unusedVariables false
set_option linter.unusedSimpArgs false

theorem splice_fill {α : Type} (L P C E Z : List α) (hL : L = P ++ Z) (hZ : E.length + C.length ≤ Z.length) : (splice (splice L P.length E) (P.length + E.length) C).take (P.length + E.length + C.length) = P ++ (E ++ C) := by
  have e1 : splice L P.length E = (P ++ E) ++ Z.drop E.length := by
    unfold splice
    rw [hL, List.take_left, ← List.drop_drop, List.drop_left]; simp
  have e2 : splice (splice L P.length E) (P.length + E.length) C = (P ++ (E ++ C)) ++ (Z.drop E.length).drop C.length := by
    rw [e1]
    unfold splice
    rw [show P.length + E.length = (P ++ E).length by simp, List.take_left, ← List.drop_drop, List.drop_left]; simp
  rw [e2, show P.length + E.length + C.length = (P ++ (E ++ C)).length by simp; omega, List.take_left]
theorem zeros_size (cs : Array Value) (k : Nat) : (Builtin.zeroCells cs k).size = k * cs.size := by
  simp [Builtin.zeroCells]

set_option maxHeartbeats 4000000 in
set_option maxRecDepth 100000 in
theorem insert_grow (g cap i : Nat) (xs : List Am) (x : Am) (vb base : Nat) (w : World) (hown : OwnAs w base (.slice (some ⟨g, 0, none⟩) xs.length cap) xs) (hl : xs.length ≤ 4096) (hb : base ≤ w.heap.size) (hx : BoxA w vb x) (hi : i < xs.length) (hcx : xs.length ≤ cap) (hroom : cap < xs.length + 1) :
    Calls Try.prog 27 #[.slice (some ⟨g, 0, none⟩) xs.length cap, .int .i64 (i : Int), .slice (some ⟨vb, 0, none⟩) 1 1] w (InsPost (xs.take i ++ x :: xs.drop i) base w) := by
  obtain ⟨i0, hi0, hz0, hz1, hz3⟩ := info_parts infoA
  have hsz : (Try.prog.info? 27).map (·.size) = some 6 := by rw [hi0]; simp [hz1]
  obtain ⟨P1, hP1⟩ : ∃ P1, (xs.take i).flatMap encA = P1 := ⟨_, rfl⟩
  obtain ⟨C1, hC1⟩ : ∃ C1, (xs.drop i).flatMap encA = C1 := ⟨_, rfl⟩
  have hPC : xs.flatMap encA = P1 ++ C1 := by rw [← hP1, ← hC1, ← List.flatMap_append, List.take_append_drop]
  have hPl : P1.length = i * 6 := by rw [← hP1, flatA_len, List.length_take]; omega
  have hCl : C1.length = (xs.length - i) * 6 := by rw [← hC1, flatA_len, List.length_drop]; omega
  have h1C : ∀ v ∈ C1, v.oneCell' = true := by
    rw [← hC1]
    intro u hu
    obtain ⟨y, hy, hu2⟩ := List.mem_flatMap.1 hu
    simp [encA] at hu2
    rcases hu2 with rfl | rfl | rfl | rfl | rfl | rfl <;> rfl
  have hgw : g < w.heap.size := (OwnAs.at hown g rfl).2
  have hvw : vb < w.heap.size := hx.lt
  have hcell : ∀ j (hj : j < xs.length * 6), w.cell? ⟨g, j, none⟩ = (P1 ++ C1)[j]? := fun j hj => by rw [World.ownsRow.cellAt hown j hj, hPC]
  have hkk : (xs.length : Int) + 1 - (i : Int) = ((xs.length + 1 - i : Nat) : Int) := by omega
  have hik : i + (xs.length + 1 - i) = xs.length + 1 := by omega
  have hadd : ∀ B o j, (⟨B, o, none⟩ : Addr).add j = ⟨B, o + j, none⟩ := fun B o j => by unfold Addr.add; split <;> simp_all
  have hold : (Builtin.firstCells i0.size i (.slice (some ⟨g, 0, none⟩) i cap)).run Try.prog w.drew = .ok P1.toArray w.drew := by
    rw [hz1]
    exact run_firstCells_some w.drew 6 i ⟨g, 0, none⟩ i cap P1 (by omega) (fun j v hj => by
      have hjl : j < P1.length := (List.getElem?_eq_some_iff.1 hj).1
      rw [hadd, Nat.zero_add, show w.drew.cell? ⟨g, j, none⟩ = w.cell? ⟨g, j, none⟩ from rfl, hcell j (by omega), List.getElem?_append_left hjl]
      exact hj)
  obtain ⟨G, hG⟩ : ∃ G, grownCap w (xs.length + 1) cap 27 = G := ⟨_, rfl⟩
  obtain ⟨ZC, hZC⟩ : ∃ ZC : Array Value, (Value.agg #[.int .i64 0, .int .i64 0, .int .i64 0, .int .i64 0, .int .i64 0, .bool false]).cells = ZC := ⟨_, rfl⟩
  have hZs : ZC.size = 6 := by rw [← hZC]; rfl
  obtain ⟨ROW, hROW⟩ : ∃ ROW : Array Value, P1.toArray ++ Builtin.zeroCells ZC (xs.length + 1 - i) ++ Builtin.zeroCells ZC (G - (xs.length + 1)) = ROW := ⟨_, rfl⟩
  obtain ⟨W1, hW1⟩ : ∃ W1, w.drew.alloc (.cells ROW 27) = W1 := ⟨_, rfl⟩
  have hrz : ∀ ty, (Builtin.append_ #[22, 3] ty #[.slice (some ⟨g, 0, none⟩) i cap, .int .i64 ((xs.length : Int) + 1 - (i : Int))]).run Try.prog w = .ok (.slice (some ⟨w.heap.size, 0, none⟩) (xs.length + 1) G) W1 := fun ty => by
    have h := Lib.run_append_grow_zeros w 22 3 ty 27 i0 _ .i64 .i64 Try.underlying22 Try.underlying3 hi0 hz0 (some ⟨g, 0, none⟩) i cap P1 hold (xs.length + 1 - i) (by omega) (by omega) (by omega) (by omega) (by rw [hz3]; omega) (by rw [hz3, hik]; exact growslice_fits hroom (by omega))
    rw [hik, hG, hZC, hROW, hW1] at h
    rw [hkk]
    exact h
  have hGn : xs.length + 1 ≤ G := by rw [← hG]; exact grownCap_ge w _ _ _
  have hGm : G ≤ maxLen := by
    have := grownCap_le_maxLen w (xs.length + 1) cap 27 (by unfold maxLen; omega)
    rwa [hG] at this
  have hG63 : G ≤ 9223372036854775807 := by unfold maxLen at hGm; omega
  have hRl : ROW.size = G * 6 := by
    rw [← hROW]
    simp only [Array.size_append, List.size_toArray, zeros_size, hZs, hPl]
    omega
  obtain ⟨Z, hZ⟩ : ∃ Z, (Builtin.zeroCells ZC (xs.length + 1 - i) ++ Builtin.zeroCells ZC (G - (xs.length + 1))).toList = Z := ⟨_, rfl⟩
  have hRL : ROW.toList = P1 ++ Z := by rw [← hROW, ← hZ]; simp
  have hZl : Z.length = G * 6 - i * 6 := by
    have := congrArg List.length hRL
    rw [List.length_append, Array.length_toList, hRl, hPl] at this
    omega
  have hN1 : W1.heap[w.heap.size]? = some (.cells ROW 27 (0, 0)) := by rw [← hW1]; exact World.alloc_heap_new w.drew _
  have ho1 : ∀ b, b < w.heap.size → W1.heap[b]? = w.heap[b]? := fun b hb => by rw [← hW1]; exact Below.heap_alloc w.drew _ b hb
  have hB1 : Below base w W1 := by
    rw [← hW1]
    exact (show Below base w w.drew from ⟨rfl, rfl, rfl, Nat.le_refl _, fun _ _ => rfl⟩).alloc hb _
  obtain ⟨row1, hr1⟩ : ∃ row1, splice ROW.toList (i * 6) (encA x) = row1 := ⟨_, rfl⟩
  have hRLl : ROW.toList.length = G * 6 := by simpa using hRl
  have hr1l : row1.length = G * 6 := by rw [← hr1, length_splice _ _ _ (by rw [hRLl]; simp [encA]; omega), hRLl]
  obtain ⟨W2, hW2⟩ : ∃ W2, W1.setRow w.heap.size row1.toArray = W2 := ⟨_, rfl⟩
  have hx1 : BoxA W1 vb x := (ho1 vb hvw).trans hx
  have hcpA : ∀ ty dc, (Builtin.copy_ #[22, 22] ty #[.slice (some ⟨w.heap.size, i * 6, none⟩) (xs.length + 1 - i) dc, .slice (some ⟨vb, 0, none⟩) 1 1]).run Try.prog W1 = .ok (goInt 1) W2 := fun ty dc => by
    have hm : Nat.min 1 (xs.length + 1 - i) = 1 := by simp only [Nat.min_def]; split <;> omega
    have := run_copy_rowN (P := Try.prog) W1 22 22 ty 27 6 w.heap.size (i * 6) (xs.length + 1 - i) dc ⟨vb, 0, none⟩ 1 1 ROW 27 (encA x) Try.underlying22 hsz hN1 (by rw [hm]; rfl) (boxA_news hx1) (by rw [hRl]; simp [encA]; omega) (by simp [Value.oneCell', encA])
    rw [this, hm, ← hW2, ← hr1]; simp [splice]
  have hN2 : W2.heap[w.heap.size]? = some (.cells row1.toArray 27 (0, 0)) := by rw [← hW2]; exact setRow_heap W1 _ _ _ 27 _ hN1
  have ho2 : ∀ b, b < w.heap.size → W2.heap[b]? = w.heap[b]? := fun b hb => by rw [← hW2]; exact (setRow_other W1 _ b _ (by omega)).trans (ho1 b hb)
  have hB2 : Below base w W2 := by rw [← hW2]; exact below_setRow hB1 hb _
  obtain ⟨W3, hW3⟩ : ∃ W3, W2.drew.setRow w.heap.size (splice row1 ((i + 1) * 6) C1).toArray = W3 := ⟨_, rfl⟩
  have hcpB : ∀ ty dc sc, (Builtin.copy_ #[22, 22] ty #[.slice (some ⟨w.heap.size, (i + 1) * 6, none⟩) (xs.length - i) dc, .slice (some ⟨g, i * 6, none⟩) (xs.length - i) sc]).run Try.prog W2.drew = .ok (goInt (xs.length - i : Nat)) W3 := fun ty dc sc => by
    have hm : Nat.min (xs.length - i) (xs.length - i) = xs.length - i := by simp only [Nat.min_def]; split <;> omega
    have := run_copy_rowN (P := Try.prog) W2.drew 22 22 ty 27 6 w.heap.size ((i + 1) * 6) (xs.length - i) dc ⟨g, i * 6, none⟩ (xs.length - i) sc row1.toArray 27 C1 Try.underlying22 hsz hN2 (by rw [hm, hCl]) (fun j v hj => ?_) (by rw [hCl]; simp only [List.size_toArray]; omega) h1C
    · rw [this, hm, ← hW3]; simp [splice]
    · have hjl : j < C1.length := (List.getElem?_eq_some_iff.1 hj).1
      rw [hadd, show W2.drew.cell? ⟨g, i * 6 + j, none⟩ = w.cell? ⟨g, i * 6 + j, none⟩ from World.cell?_of_block (ho2 g hgw), hcell (i * 6 + j) (by rw [hCl] at hjl; omega), List.getElem?_append_right (by omega), hPl, Nat.add_sub_cancel_left]
      exact hj
  have HFIN := Lib.hid (show OwnAs W3 base (.slice (some ⟨w.heap.size, 0, none⟩) (xs.length + 1) G) (xs.take i ++ x :: xs.drop i) ∧ Below base w W3 from by
    have hyl : (xs.take i ++ x :: xs.drop i).length = xs.length + 1 := by simp; omega
    have hyf : (xs.take i ++ x :: xs.drop i).flatMap encA = P1 ++ (encA x ++ C1) := by rw [List.flatMap_append, List.flatMap_cons, hP1, hC1]
    have hL2 : (splice row1 ((i + 1) * 6) C1).length = G * 6 := by rw [length_splice _ _ _ (by rw [hr1l, hCl]; omega), hr1l]
    refine ⟨?_, by rw [← hW3]; exact below_setRow (w0 := w) (w := W2.drew) (hB2.trans ⟨rfl, rfl, rfl, Nat.le_refl _, fun _ _ => rfl⟩) hb _⟩
    unfold OwnAs
    rw [hyl]
    refine ⟨by rw [flatA_len, hyl]; omega, .inr ⟨w.heap.size, G, (splice row1 ((i + 1) * 6) C1).toArray, rfl, hb, by rw [← hW3]; exact setRow_heap W2.drew _ _ _ 27 _ hN2, hGn, hGm, by simpa using hL2, ?_⟩⟩
    have := splice_fill ROW.toList P1 C1 (encA x) Z hRL (by rw [hZl, hCl]; simp [encA]; omega)
    rw [hyf, ← this, hPl, hCl, ← hr1]
    simp only [encA, List.length_cons, List.length_nil]
    rw [show (xs.length + 1) * 6 = i * 6 + (0 + 1 + 1 + 1 + 1 + 1 + 1) + (xs.length - i) * 6 by omega, show (i + 1) * 6 = i * 6 + (0 + 1 + 1 + 1 + 1 + 1 + 1) by omega])
  have hz2 : ((i : Int) == (xs.length : Int)) = false := by rw [beq_eq_false_iff_ne]; omega
  have hw1 : IntKind.i64.wrap ((i : Int) + 1) = (i : Int) + 1 := by rw [IntKind.wrap_i64]; omega
  have hw2 : IntKind.i64.wrap ((xs.length : Int) + 1) = (xs.length : Int) + 1 := by rw [IntKind.wrap_i64]; omega
  have hw3 : IntKind.i64.wrap ((xs.length : Int) + 1 - (i : Int)) = (xs.length : Int) + 1 - (i : Int) := by rw [IntKind.wrap_i64]; omega
  have hrm : decide ((cap : Int) < (xs.length : Int) + 1) = true := by rw [decide_eq_true_eq]; omega
  have hGi : ¬ (G = i) := by omega
  have hGim : ¬ (G = i + 1) := by omega
  have hci : ¬ (cap = i) := by omega
  have hb0 : (0 : Int) ≤ (i : Int) + 1 := by omega
  have hin : i ≤ xs.length := by omega
  have htn : ((i : Int) + 1).toNat = i + 1 := by omega
  have hb3 : (i : Int) ≤ (xs.length : Int) := by omega
  have hb4 : (i : Int) ≤ (xs.length : Int) + 1 := by omega
  have hmix : Try.prog.follows .mixedOrders = true := by kernel_rfl
  clear hRLl hx hown hP1 hC1 hPC hPl hCl h1C hcell hkk hik hadd hold hG hZC hZs hROW hW1 hRl hZ hRL hZl hN1 ho1 hB1 hr1 hr1l hW2 hx1 hN2 ho2 hB2 hW3 hsz hi0 hz0 hz1 hz3 hGm
  go_enter Try.func27, Try.ntmps27
  go_wp2_with (first
    | (at_builtin; refine Lib.wpList_append_run _ rfl _ _ _ _ rfl _ _ rfl rfl _ _ (hrz _) ?_)
    | (at_builtin; refine wpList_copy_run _ rfl _ _ 22 22 rfl _ _ rfl rfl (hcpA _ _) ?_))
  go_region_law_o (refine step_copy_run rfl _ _ 22 22 rfl _ _ (by simp [Act.eval, Act.put]) (by simp [Act.eval, Act.put]) (hcpB _ _ _) ?_)
  go_wp2
  go_ret
  exact ⟨_, rfl, HFIN.out⟩
end Go.Proofs.Ytcifhigeieoogaa

/- The region of latest that draws and stores, in a round. -/
import Derived.Test.YtchjjcmlekknfaaW11
namespace Go.Proofs.Ytchjjcmlekknfaa
open Go.RowKit
set_option linter.unusedVariables false
set_option linter.unusedSimpArgs false

noncomputable def latReg : Code := (Try.f28.body.bind (findRegion 15)).getD .skip

set_option maxRecDepth 10000 in
set_option maxHeartbeats 4000000 in
theorem lat_region {la : Nat} {Q : Exit → Act → World → Prop} {W : World} {c0 c1 c3 c5 c6 c10 c11 c12 c13 c14 c15 c16 c17 c18 c19 c20 c21 c22 c23 c24 c25 c26 c27 c28 c29 c30 c31 c32 c33 c34 c35 c36 c37 c38 c39 c40 c41 c42 c43 c44 c45 c46 c47 c48 c49 c50 c51 c52 c53 c54 c55 c56 c57 c58 c59 c60 c61 c62 c63 c64 c65 c66 c67 c68 c69 c70 c71 c72 c73 c74 c75 c76 c77 c78 : Value} {B H bj i j : Nat} {nd f li lj : Int}
    (hj65 : j < 65) (hij : i < j)
    (x1 : W.cell? ⟨bj, 0, none⟩ = some (.int .i64 (j : Int))) (x2 : W.cell? ⟨H, 0, none⟩ = some (.pointer (some ⟨B, 0, none⟩))) (x3 : W.cell? ⟨H + 1, j, none⟩ = some (.int .i64 lj)) (x4 : W.cell? ⟨B, 67, none⟩ = some (.int .i64 f)) (x5 : W.cell? ⟨H + 1, i, none⟩ = some (.int .i64 li)) (f5 : W.frozen? ⟨H + 1, i, none⟩ = false)
    (n1 : bj ≠ H + 1) (n2 : B ≠ H + 1) (hw1 : IntKind.i64.wrap (lj - nd) = lj - nd) (hw2 : IntKind.i64.wrap (lj - nd - f) = lj - nd - f)
    (hQ : ∀ a w, ¬ Q .outgrown a w) (hP : ∀ c a w, ¬ Q (.panic c) a w) (hN : ∀ a n, Q .normal a ((W.drewN n).setCell ⟨H + 1, i, none⟩ (.int .i64 (max li (lj - nd - f))))) :
    latReg.wpIn (Fence.wide.inRound la) 0 Try.prog Q { tmps := #[c0, c1, (.pointer (some ⟨H, 0, none⟩)), c3, (.pointer (some ⟨H + 1, 0, none⟩)), c5, c6, (.pointer (some ⟨bj, 0, none⟩)), (.int .i64 (i : Int)), (.int .i64 nd), c10, c11, c12, c13, c14, c15, c16, c17, c18, c19, c20, c21, c22, c23, c24, c25, c26, c27, c28, c29, c30, c31, c32, c33, c34, c35, c36, c37, c38, c39, c40, c41, c42, c43, c44, c45, c46, c47, c48, c49, c50, c51, c52, c53, c54, c55, c56, c57, c58, c59, c60, c61, c62, c63, c64, c65, c66, c67, c68, c69, c70, c71, c72, c73, c74, c75, c76, c77, c78], defers := [] } W := by
  conv => arg 4; whnf
  have hmix : Try.prog.follows .mixedOrders = true := by kernel_rfl
  have b1 : (0 : Int) ≤ (j : Int) := by omega
  have b2 : (j : Int) < 65 := by omega
  have b3 : (0 : Int) ≤ (i : Int) := by omega
  have b4 : (i : Int) < 65 := by omega
  refine wpIn_round_held (S := fun X => X.cell? ⟨bj, 0, none⟩ = some (.int .i64 (j : Int)) ∧ X.cell? ⟨H, 0, none⟩ = some (.pointer (some ⟨B, 0, none⟩)) ∧ X.cell? ⟨H + 1, j, none⟩ = some (.int .i64 lj) ∧ X.cell? ⟨B, 67, none⟩ = some (.int .i64 f)) hmix (by simp) hQ ?_
  have hS0 : (fun X => X.cell? ⟨bj, 0, none⟩ = some (.int .i64 (j : Int)) ∧ X.cell? ⟨H, 0, none⟩ = some (.pointer (some ⟨B, 0, none⟩)) ∧ X.cell? ⟨H + 1, j, none⟩ = some (.int .i64 lj) ∧ X.cell? ⟨B, 67, none⟩ = some (.int .i64 f)) W.drew := ⟨x1, x2, x3, x4⟩
  have HS2 := Lib.hid (fun (n : Nat) (v : Value) => show (fun X => X.cell? ⟨bj, 0, none⟩ = some (.int .i64 (j : Int)) ∧ X.cell? ⟨H, 0, none⟩ = some (.pointer (some ⟨B, 0, none⟩)) ∧ X.cell? ⟨H + 1, j, none⟩ = some (.int .i64 lj) ∧ X.cell? ⟨B, 67, none⟩ = some (.int .i64 f)) ((W.drewN n).setCell ⟨H + 1, i, none⟩ v) from
    ⟨(World.cell?_setCell_other _ ⟨H + 1, i, none⟩ ⟨bj, 0, none⟩ v (by intro e; injection e with e1 e2; exact n1 e1.symm)).trans x1, (World.cell?_setCell_other _ ⟨H + 1, i, none⟩ ⟨H, 0, none⟩ v (by intro e; injection e with e1 e2; omega)).trans x2,
      (World.cell?_setCell_other _ ⟨H + 1, i, none⟩ ⟨H + 1, j, none⟩ v (by intro e; injection e with e1 e2; omega)).trans x3, (World.cell?_setCell_other _ ⟨H + 1, i, none⟩ ⟨B, 67, none⟩ v (by intro e; injection e with e1 e2; exact n2 e1.symm)).trans x4⟩)
  refine wpAnyH_take (i := 0) (v := (.int .i64 (i : Int))) rfl (by kernel_rfl) (by kernel_rfl) (by kernel_rfl) (fun _ _ _ h => absurd h (hP _ _ _)) (.inl ⟨rfl, fun X hX => ?_⟩) hS0 ?_
  · obtain ⟨z1, z2, z3, z4⟩ := hX; go_simp
  simp only [Act.put, List.setIfInBounds_toArray, List.set_cons_zero, List.set_cons_succ]
  refine wpAnyH_take (i := 1) (v := (.int .i64 (i : Int))) rfl (by kernel_rfl) (by kernel_rfl) (by kernel_rfl) (fun _ _ _ h => absurd h (hP _ _ _)) (.inl ⟨rfl, fun X hX => ?_⟩) hS0 ?_
  · obtain ⟨z1, z2, z3, z4⟩ := hX; go_simp
  simp only [Act.put, List.setIfInBounds_toArray, List.set_cons_zero, List.set_cons_succ]
  refine wpAnyH_take (i := 2) (v := (.pointer (some ⟨H + 1, i, none⟩))) rfl (by kernel_rfl) (by kernel_rfl) (by kernel_rfl) (fun _ _ _ h => absurd h (hP _ _ _)) (.inl ⟨rfl, fun X hX => ?_⟩) hS0 ?_
  · obtain ⟨z1, z2, z3, z4⟩ := hX; go_simp
  simp only [Act.put, List.setIfInBounds_toArray, List.set_cons_zero, List.set_cons_succ]
  refine wpAnyH_take (i := 4) (v := (.int .i64 (j : Int))) rfl (by kernel_rfl) (by kernel_rfl) (by kernel_rfl) (fun _ _ _ h => absurd h (hP _ _ _)) (.inl ⟨rfl, fun X hX => ?_⟩) hS0 ?_
  · obtain ⟨z1, z2, z3, z4⟩ := hX; go_simp
  simp only [Act.put, List.setIfInBounds_toArray, List.set_cons_zero, List.set_cons_succ]
  refine wpAnyH_take (i := 5) (v := (.pointer (some ⟨H + 1, j, none⟩))) rfl (by kernel_rfl) (by kernel_rfl) (by kernel_rfl) (fun _ _ _ h => absurd h (hP _ _ _)) (.inl ⟨rfl, fun X hX => ?_⟩) hS0 ?_
  · obtain ⟨z1, z2, z3, z4⟩ := hX; go_simp
  simp only [Act.put, List.setIfInBounds_toArray, List.set_cons_zero, List.set_cons_succ]
  refine wpAnyH_take (i := 6) (v := (.int .i64 lj)) rfl (by kernel_rfl) (by kernel_rfl) (by kernel_rfl) (fun _ _ _ h => absurd h (hP _ _ _)) (.inl ⟨rfl, fun X hX => ?_⟩) hS0 ?_
  · obtain ⟨z1, z2, z3, z4⟩ := hX; go_simp
  simp only [Act.put, List.setIfInBounds_toArray, List.set_cons_zero, List.set_cons_succ]
  refine wpAnyH_take (i := 7) (v := (.int .i64 nd)) rfl (by kernel_rfl) (by kernel_rfl) (by kernel_rfl) (fun _ _ _ h => absurd h (hP _ _ _)) (.inl ⟨rfl, fun X hX => ?_⟩) hS0 ?_
  · obtain ⟨z1, z2, z3, z4⟩ := hX; go_simp
  simp only [Act.put, List.setIfInBounds_toArray, List.set_cons_zero, List.set_cons_succ]
  refine wpAnyH_take (i := 8) (v := (.int .i64 (lj - nd))) rfl (by kernel_rfl) (by kernel_rfl) (by kernel_rfl) (fun _ _ _ h => absurd h (hP _ _ _)) (.inl ⟨rfl, fun X hX => ?_⟩) hS0 ?_
  · obtain ⟨z1, z2, z3, z4⟩ := hX; go_simp
  simp only [Act.put, List.setIfInBounds_toArray, List.set_cons_zero, List.set_cons_succ]
  refine wpAnyH_take (i := 9) (v := (.pointer (some ⟨B, 0, none⟩))) rfl (by kernel_rfl) (by kernel_rfl) (by kernel_rfl) (fun _ _ _ h => absurd h (hP _ _ _)) (.inl ⟨rfl, fun X hX => ?_⟩) hS0 ?_
  · obtain ⟨z1, z2, z3, z4⟩ := hX; go_simp
  simp only [Act.put, List.setIfInBounds_toArray, List.set_cons_zero, List.set_cons_succ]
  refine wpAnyH_take (i := 10) (v := (.pointer (some ⟨B, 0, none⟩))) rfl (by kernel_rfl) (by kernel_rfl) (by kernel_rfl) (fun _ _ _ h => absurd h (hP _ _ _)) (.inl ⟨rfl, fun X hX => ?_⟩) hS0 ?_
  · obtain ⟨z1, z2, z3, z4⟩ := hX; go_simp
  simp only [Act.put, List.setIfInBounds_toArray, List.set_cons_zero, List.set_cons_succ]
  refine wpAnyH_take (i := 11) (v := (.pointer (some ⟨B, 67, none⟩))) rfl (by kernel_rfl) (by kernel_rfl) (by kernel_rfl) (fun _ _ _ h => absurd h (hP _ _ _)) (.inl ⟨rfl, fun X hX => ?_⟩) hS0 ?_
  · obtain ⟨z1, z2, z3, z4⟩ := hX; go_simp
  simp only [Act.put, List.setIfInBounds_toArray, List.set_cons_zero, List.set_cons_succ]
  refine wpAnyH_take (i := 12) (v := (.int .i64 f)) rfl (by kernel_rfl) (by kernel_rfl) (by kernel_rfl) (fun _ _ _ h => absurd h (hP _ _ _)) (.inl ⟨rfl, fun X hX => ?_⟩) hS0 ?_
  · obtain ⟨z1, z2, z3, z4⟩ := hX; go_simp
  simp only [Act.put, List.setIfInBounds_toArray, List.set_cons_zero, List.set_cons_succ]
  refine wpAnyH_take (i := 13) (v := (.int .i64 (lj - nd - f))) rfl (by kernel_rfl) (by kernel_rfl) (by kernel_rfl) (fun _ _ _ h => absurd h (hP _ _ _)) (.inl ⟨rfl, fun X hX => ?_⟩) hS0 ?_
  · obtain ⟨z1, z2, z3, z4⟩ := hX; go_simp
  simp only [Act.put, List.setIfInBounds_toArray, List.set_cons_zero, List.set_cons_succ]
  refine wpAnyH_ready (rs := [3]) (by kernel_rfl) (by simp) ?_
  refine AllReadyH.cons rfl (fun K hK => ?_) AllReadyH.nil
  go_simp
  refine hK.out _ _ hS0 ?_
  intro _
  clear hK K
  refine wpAnyH_take (i := 14) (v := (.int .i64 (max li (lj - nd - f)))) rfl (by kernel_rfl) (by kernel_rfl) (by kernel_rfl) (fun _ _ _ h => absurd h (hP _ _ _)) (.inl ⟨rfl, fun X hX => ?_⟩) hS0 ?_
  · obtain ⟨z1, z2, z3, z4⟩ := hX; go_simp; omega
  simp only [Act.put, List.setIfInBounds_toArray, List.set_cons_zero, List.set_cons_succ]
  refine wpAnyH_take (i := 15) (v := (.pointer (some ⟨H + 1, i, none⟩))) rfl (by kernel_rfl) (by kernel_rfl) (by kernel_rfl) (fun _ _ _ h => absurd h (hP _ _ _)) (.inl ⟨rfl, fun X hX => ?_⟩) hS0 ?_
  · obtain ⟨z1, z2, z3, z4⟩ := hX; go_simp
  simp only [Act.put, List.setIfInBounds_toArray, List.set_cons_zero, List.set_cons_succ]
  refine wpAnyH_ready (rs := [16]) (by kernel_rfl) (by simp) ?_
  refine AllReadyH.cons rfl (fun K hK => ?_) AllReadyH.nil
  go_simp
  refine hK.out _ _ (HS2.out 1 _) ?_
  intro _
  clear hK K
  refine wpAnyH_done (by kernel_rfl) ?_ _
  exact hN _ 1
end Go.Proofs.Ytchjjcmlekknfaa

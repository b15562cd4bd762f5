/- Walk of the region of Latest that draws, in a round. -/
import Derived.Test.YtofllhbcediafaaW10
import Derived.Test.YtofllhbcediafaaRound
import Derived.Deep.RegionHeld
namespace Go.Proofs.Ytofllhbcediafaa
open Go.RowKit
set_option linter.unusedVariables false

def findRegion (n : Nat) : Code → Option Code
  | .region id ops d => if id = n then some (.region id ops d) else none
  | .seq a b => (findRegion n a).orElse (fun _ => findRegion n b)
  | .cond _ a b => (findRegion n a).orElse (fun _ => findRegion n b)
  | .block _ c => findRegion n c
  | .loop c => findRegion n c
  | .scope c => findRegion n c
  | .rangeFunc _ _ a b => (findRegion n a).orElse (fun _ => findRegion n b)
  | _ => none
noncomputable def pairReg : Code := (Try.f11.body.bind (findRegion 10)).getD .skip

set_option maxRecDepth 10000 in
set_option maxHeartbeats 1000000 in
theorem pair_region {la : Nat} {Q : Exit → Act → World → Prop} {W : World} {c0 c1 c2 c6 c7 c10 c11 c12 c13 c14 c15 c16 c17 c18 c19 c20 c21 c22 c23 c24 c25 c26 c27 c28 c29 c30 c31 c32 c33 c34 c35 c36 c37 c38 c39 c40 c41 c42 c43 c44 c45 c46 c47 c48 c49 c50 c51 c52 : Value} {ss sy sd sf g1 g2 p n b off nd capd j : Nat} {v : Int} {x1 x2 : Value}
    (hs : W.cell? ⟨ss, 0, none⟩ = some (.slice (some ⟨g1, 0, none⟩) n n)) (hy : W.cell? ⟨sy, 0, none⟩ = some (.slice (some ⟨g2, 0, none⟩) n n)) (hd : W.cell? ⟨sd, 0, none⟩ = some (.slice (some ⟨b, off, none⟩) nd capd))
    (hf : W.cell? ⟨sf, 0, none⟩ = some (.int .i64 (j : Int))) (hv : W.cell? ⟨b, off + j, none⟩ = some (.int .i64 v)) (hp : p < n) (hj : j < nd)
    (h1 : W.cell? ⟨g1, p, none⟩ = some x1) (f1 : W.frozen? ⟨g1, p, none⟩ = false) (h2 : W.cell? ⟨g2, p, none⟩ = some x2) (f2 : W.frozen? ⟨g2, p, none⟩ = false) (hne2 : g2 ≠ g1) (q01 : ss ≠ g1) (q02 : ss ≠ g2) (q11 : sy ≠ g1) (q12 : sy ≠ g2) (q21 : sd ≠ g1) (q22 : sd ≠ g2) (q31 : sf ≠ g1) (q32 : sf ≠ g2) (q41 : b ≠ g1) (q42 : b ≠ g2)
    (hQ : ∀ a w, ¬ Q .outgrown a w) (hP : ∀ c a w, ¬ Q (.panic c) a w) (hN : Q .normal { tmps := #[c0, c1, c2, (.pointer (some ⟨sd, 0, none⟩)), (.pointer (some ⟨ss, 0, none⟩)), (.pointer (some ⟨sy, 0, none⟩)), c6, c7, (.pointer (some ⟨sf, 0, none⟩)), (.int .i64 (p : Int)), c10, c11, c12, c13, c14, c15, c16, c17, c18, c19, c20, c21, c22, c23, c24, c25, c26, c27, c28, c29, c30, c31, c32, c33, c34, (.slice (some ⟨g1, 0, none⟩) n n), (.int .i64 (p : Int)), (.slice (some ⟨g2, 0, none⟩) n n), (.int .i64 (p : Int)), (.slice (some ⟨b, off, none⟩) nd capd), (.int .i64 (j : Int)), (.pointer (some ⟨b, off + j, none⟩)), (.int .i64 v), (.int .i64 (j : Int)), (.pointer (some ⟨g1, p, none⟩)), (.pointer (some ⟨g2, p, none⟩)), c46, c47, c48, c49, c50, c51, c52], defers := [] } ((W.setCell ⟨g1, p, none⟩ (.int .i64 v)).setCell ⟨g2, p, none⟩ (.int .i64 (j : Int))).drew) :
    pairReg.wpIn (Fence.wide.inRound la) 0 Try.prog Q { tmps := #[c0, c1, c2, (.pointer (some ⟨sd, 0, none⟩)), (.pointer (some ⟨ss, 0, none⟩)), (.pointer (some ⟨sy, 0, none⟩)), c6, c7, (.pointer (some ⟨sf, 0, none⟩)), (.int .i64 (p : Int)), c10, c11, c12, c13, c14, c15, c16, c17, c18, c19, c20, c21, c22, c23, c24, c25, c26, c27, c28, c29, c30, c31, c32, c33, c34, c35, c36, c37, c38, c39, c40, c41, c42, c43, c44, c45, c46, c47, c48, c49, c50, c51, c52], defers := [] } W := by
  conv => arg 4; whnf
  have hmix : Try.prog.follows .mixedOrders = true := by kernel_rfl
  refine wpIn_round_held (S := fun X => X.cell? ⟨ss, 0, none⟩ = some (.slice (some ⟨g1, 0, none⟩) n n) ∧ X.cell? ⟨sy, 0, none⟩ = some (.slice (some ⟨g2, 0, none⟩) n n) ∧ X.cell? ⟨sd, 0, none⟩ = some (.slice (some ⟨b, off, none⟩) nd capd) ∧ X.cell? ⟨sf, 0, none⟩ = some (.int .i64 (j : Int)) ∧ X.cell? ⟨b, off + j, none⟩ = some (.int .i64 v)) hmix (by simp) hQ ?_
  have hS0 : (fun X => X.cell? ⟨ss, 0, none⟩ = some (.slice (some ⟨g1, 0, none⟩) n n) ∧ X.cell? ⟨sy, 0, none⟩ = some (.slice (some ⟨g2, 0, none⟩) n n) ∧ X.cell? ⟨sd, 0, none⟩ = some (.slice (some ⟨b, off, none⟩) nd capd) ∧ X.cell? ⟨sf, 0, none⟩ = some (.int .i64 (j : Int)) ∧ X.cell? ⟨b, off + j, none⟩ = some (.int .i64 v)) W.drew := ⟨hs, hy, hd, hf, hv⟩
  have hp' : ((p : Int) < (n : Int)) := by omega
  have hj' : ((j : Int) < (nd : Int)) := by omega
  refine wpAnyH_take (i := 0) (v := (.slice (some ⟨g1, 0, none⟩) n n)) rfl (by kernel_rfl) (by kernel_rfl) (by kernel_rfl) (fun _ _ _ h => absurd h (hP _ _ _)) (.inl ⟨rfl, fun X hX => ?_⟩) hS0 ?_
  · obtain ⟨z1, z2, z3, z4, z5⟩ := hX; go_simp
  change wpAnyH _ _ _ _ _ _ _ { tmps := #[c0, c1, c2, (.pointer (some ⟨sd, 0, none⟩)), (.pointer (some ⟨ss, 0, none⟩)), (.pointer (some ⟨sy, 0, none⟩)), c6, c7, (.pointer (some ⟨sf, 0, none⟩)), (.int .i64 (p : Int)), c10, c11, c12, c13, c14, c15, c16, c17, c18, c19, c20, c21, c22, c23, c24, c25, c26, c27, c28, c29, c30, c31, c32, c33, c34, (.slice (some ⟨g1, 0, none⟩) n n), c36, c37, c38, c39, c40, c41, c42, c43, c44, c45, c46, c47, c48, c49, c50, c51, c52], defers := [] } _
  refine wpAnyH_take (i := 1) (v := (.int .i64 (p : Int))) rfl (by kernel_rfl) (by kernel_rfl) (by kernel_rfl) (fun _ _ _ h => absurd h (hP _ _ _)) (.inl ⟨rfl, fun X hX => ?_⟩) hS0 ?_
  · obtain ⟨z1, z2, z3, z4, z5⟩ := hX; go_simp
  change wpAnyH _ _ _ _ _ _ _ { tmps := #[c0, c1, c2, (.pointer (some ⟨sd, 0, none⟩)), (.pointer (some ⟨ss, 0, none⟩)), (.pointer (some ⟨sy, 0, none⟩)), c6, c7, (.pointer (some ⟨sf, 0, none⟩)), (.int .i64 (p : Int)), c10, c11, c12, c13, c14, c15, c16, c17, c18, c19, c20, c21, c22, c23, c24, c25, c26, c27, c28, c29, c30, c31, c32, c33, c34, (.slice (some ⟨g1, 0, none⟩) n n), (.int .i64 (p : Int)), c37, c38, c39, c40, c41, c42, c43, c44, c45, c46, c47, c48, c49, c50, c51, c52], defers := [] } _
  refine wpAnyH_take (i := 2) (v := (.slice (some ⟨g2, 0, none⟩) n n)) rfl (by kernel_rfl) (by kernel_rfl) (by kernel_rfl) (fun _ _ _ h => absurd h (hP _ _ _)) (.inl ⟨rfl, fun X hX => ?_⟩) hS0 ?_
  · obtain ⟨z1, z2, z3, z4, z5⟩ := hX; go_simp
  change wpAnyH _ _ _ _ _ _ _ { tmps := #[c0, c1, c2, (.pointer (some ⟨sd, 0, none⟩)), (.pointer (some ⟨ss, 0, none⟩)), (.pointer (some ⟨sy, 0, none⟩)), c6, c7, (.pointer (some ⟨sf, 0, none⟩)), (.int .i64 (p : Int)), c10, c11, c12, c13, c14, c15, c16, c17, c18, c19, c20, c21, c22, c23, c24, c25, c26, c27, c28, c29, c30, c31, c32, c33, c34, (.slice (some ⟨g1, 0, none⟩) n n), (.int .i64 (p : Int)), (.slice (some ⟨g2, 0, none⟩) n n), c38, c39, c40, c41, c42, c43, c44, c45, c46, c47, c48, c49, c50, c51, c52], defers := [] } _
  refine wpAnyH_take (i := 3) (v := (.int .i64 (p : Int))) rfl (by kernel_rfl) (by kernel_rfl) (by kernel_rfl) (fun _ _ _ h => absurd h (hP _ _ _)) (.inl ⟨rfl, fun X hX => ?_⟩) hS0 ?_
  · obtain ⟨z1, z2, z3, z4, z5⟩ := hX; go_simp
  change wpAnyH _ _ _ _ _ _ _ { tmps := #[c0, c1, c2, (.pointer (some ⟨sd, 0, none⟩)), (.pointer (some ⟨ss, 0, none⟩)), (.pointer (some ⟨sy, 0, none⟩)), c6, c7, (.pointer (some ⟨sf, 0, none⟩)), (.int .i64 (p : Int)), c10, c11, c12, c13, c14, c15, c16, c17, c18, c19, c20, c21, c22, c23, c24, c25, c26, c27, c28, c29, c30, c31, c32, c33, c34, (.slice (some ⟨g1, 0, none⟩) n n), (.int .i64 (p : Int)), (.slice (some ⟨g2, 0, none⟩) n n), (.int .i64 (p : Int)), c39, c40, c41, c42, c43, c44, c45, c46, c47, c48, c49, c50, c51, c52], defers := [] } _
  refine wpAnyH_take (i := 4) (v := (.slice (some ⟨b, off, none⟩) nd capd)) rfl (by kernel_rfl) (by kernel_rfl) (by kernel_rfl) (fun _ _ _ h => absurd h (hP _ _ _)) (.inl ⟨rfl, fun X hX => ?_⟩) hS0 ?_
  · obtain ⟨z1, z2, z3, z4, z5⟩ := hX; go_simp
  change wpAnyH _ _ _ _ _ _ _ { tmps := #[c0, c1, c2, (.pointer (some ⟨sd, 0, none⟩)), (.pointer (some ⟨ss, 0, none⟩)), (.pointer (some ⟨sy, 0, none⟩)), c6, c7, (.pointer (some ⟨sf, 0, none⟩)), (.int .i64 (p : Int)), c10, c11, c12, c13, c14, c15, c16, c17, c18, c19, c20, c21, c22, c23, c24, c25, c26, c27, c28, c29, c30, c31, c32, c33, c34, (.slice (some ⟨g1, 0, none⟩) n n), (.int .i64 (p : Int)), (.slice (some ⟨g2, 0, none⟩) n n), (.int .i64 (p : Int)), (.slice (some ⟨b, off, none⟩) nd capd), c40, c41, c42, c43, c44, c45, c46, c47, c48, c49, c50, c51, c52], defers := [] } _
  refine wpAnyH_take (i := 5) (v := (.int .i64 (j : Int))) rfl (by kernel_rfl) (by kernel_rfl) (by kernel_rfl) (fun _ _ _ h => absurd h (hP _ _ _)) (.inl ⟨rfl, fun X hX => ?_⟩) hS0 ?_
  · obtain ⟨z1, z2, z3, z4, z5⟩ := hX; go_simp
  change wpAnyH _ _ _ _ _ _ _ { tmps := #[c0, c1, c2, (.pointer (some ⟨sd, 0, none⟩)), (.pointer (some ⟨ss, 0, none⟩)), (.pointer (some ⟨sy, 0, none⟩)), c6, c7, (.pointer (some ⟨sf, 0, none⟩)), (.int .i64 (p : Int)), c10, c11, c12, c13, c14, c15, c16, c17, c18, c19, c20, c21, c22, c23, c24, c25, c26, c27, c28, c29, c30, c31, c32, c33, c34, (.slice (some ⟨g1, 0, none⟩) n n), (.int .i64 (p : Int)), (.slice (some ⟨g2, 0, none⟩) n n), (.int .i64 (p : Int)), (.slice (some ⟨b, off, none⟩) nd capd), (.int .i64 (j : Int)), c41, c42, c43, c44, c45, c46, c47, c48, c49, c50, c51, c52], defers := [] } _
  refine wpAnyH_take (i := 6) (v := (.pointer (some ⟨b, off + j, none⟩))) rfl (by kernel_rfl) (by kernel_rfl) (by kernel_rfl) (fun _ _ _ h => absurd h (hP _ _ _)) (.inl ⟨rfl, fun X hX => ?_⟩) hS0 ?_
  · obtain ⟨z1, z2, z3, z4, z5⟩ := hX; go_simp
  change wpAnyH _ _ _ _ _ _ _ { tmps := #[c0, c1, c2, (.pointer (some ⟨sd, 0, none⟩)), (.pointer (some ⟨ss, 0, none⟩)), (.pointer (some ⟨sy, 0, none⟩)), c6, c7, (.pointer (some ⟨sf, 0, none⟩)), (.int .i64 (p : Int)), c10, c11, c12, c13, c14, c15, c16, c17, c18, c19, c20, c21, c22, c23, c24, c25, c26, c27, c28, c29, c30, c31, c32, c33, c34, (.slice (some ⟨g1, 0, none⟩) n n), (.int .i64 (p : Int)), (.slice (some ⟨g2, 0, none⟩) n n), (.int .i64 (p : Int)), (.slice (some ⟨b, off, none⟩) nd capd), (.int .i64 (j : Int)), (.pointer (some ⟨b, off + j, none⟩)), c42, c43, c44, c45, c46, c47, c48, c49, c50, c51, c52], defers := [] } _
  refine wpAnyH_take (i := 7) (v := (.int .i64 v)) rfl (by kernel_rfl) (by kernel_rfl) (by kernel_rfl) (fun _ _ _ h => absurd h (hP _ _ _)) (.inl ⟨rfl, fun X hX => ?_⟩) hS0 ?_
  · obtain ⟨z1, z2, z3, z4, z5⟩ := hX; go_simp
  change wpAnyH _ _ _ _ _ _ _ { tmps := #[c0, c1, c2, (.pointer (some ⟨sd, 0, none⟩)), (.pointer (some ⟨ss, 0, none⟩)), (.pointer (some ⟨sy, 0, none⟩)), c6, c7, (.pointer (some ⟨sf, 0, none⟩)), (.int .i64 (p : Int)), c10, c11, c12, c13, c14, c15, c16, c17, c18, c19, c20, c21, c22, c23, c24, c25, c26, c27, c28, c29, c30, c31, c32, c33, c34, (.slice (some ⟨g1, 0, none⟩) n n), (.int .i64 (p : Int)), (.slice (some ⟨g2, 0, none⟩) n n), (.int .i64 (p : Int)), (.slice (some ⟨b, off, none⟩) nd capd), (.int .i64 (j : Int)), (.pointer (some ⟨b, off + j, none⟩)), (.int .i64 v), c43, c44, c45, c46, c47, c48, c49, c50, c51, c52], defers := [] } _
  refine wpAnyH_take (i := 8) (v := (.int .i64 (j : Int))) rfl (by kernel_rfl) (by kernel_rfl) (by kernel_rfl) (fun _ _ _ h => absurd h (hP _ _ _)) (.inl ⟨rfl, fun X hX => ?_⟩) hS0 ?_
  · obtain ⟨z1, z2, z3, z4, z5⟩ := hX; go_simp
  change wpAnyH _ _ _ _ _ _ _ { tmps := #[c0, c1, c2, (.pointer (some ⟨sd, 0, none⟩)), (.pointer (some ⟨ss, 0, none⟩)), (.pointer (some ⟨sy, 0, none⟩)), c6, c7, (.pointer (some ⟨sf, 0, none⟩)), (.int .i64 (p : Int)), c10, c11, c12, c13, c14, c15, c16, c17, c18, c19, c20, c21, c22, c23, c24, c25, c26, c27, c28, c29, c30, c31, c32, c33, c34, (.slice (some ⟨g1, 0, none⟩) n n), (.int .i64 (p : Int)), (.slice (some ⟨g2, 0, none⟩) n n), (.int .i64 (p : Int)), (.slice (some ⟨b, off, none⟩) nd capd), (.int .i64 (j : Int)), (.pointer (some ⟨b, off + j, none⟩)), (.int .i64 v), (.int .i64 (j : Int)), c44, c45, c46, c47, c48, c49, c50, c51, c52], defers := [] } _
  refine wpAnyH_take (i := 9) (v := (.pointer (some ⟨g1, p, none⟩))) rfl (by kernel_rfl) (by kernel_rfl) (by kernel_rfl) (fun _ _ _ h => absurd h (hP _ _ _)) (.inl ⟨rfl, fun X hX => ?_⟩) hS0 ?_
  · obtain ⟨z1, z2, z3, z4, z5⟩ := hX; go_simp
  change wpAnyH _ _ _ _ _ _ _ { tmps := #[c0, c1, c2, (.pointer (some ⟨sd, 0, none⟩)), (.pointer (some ⟨ss, 0, none⟩)), (.pointer (some ⟨sy, 0, none⟩)), c6, c7, (.pointer (some ⟨sf, 0, none⟩)), (.int .i64 (p : Int)), c10, c11, c12, c13, c14, c15, c16, c17, c18, c19, c20, c21, c22, c23, c24, c25, c26, c27, c28, c29, c30, c31, c32, c33, c34, (.slice (some ⟨g1, 0, none⟩) n n), (.int .i64 (p : Int)), (.slice (some ⟨g2, 0, none⟩) n n), (.int .i64 (p : Int)), (.slice (some ⟨b, off, none⟩) nd capd), (.int .i64 (j : Int)), (.pointer (some ⟨b, off + j, none⟩)), (.int .i64 v), (.int .i64 (j : Int)), (.pointer (some ⟨g1, p, none⟩)), c45, c46, c47, c48, c49, c50, c51, c52], defers := [] } _
  refine wpAnyH_ready (rs := [10]) (by kernel_rfl) (by simp) (AllReadyH.cons rfl (fun K hK => ?_) AllReadyH.nil)
  go_simp
  refine hK.out _ _ ⟨(World.cell?_setCell_other _ _ _ _ (by intro e; injection e with e; exact q01 e.symm)).trans hS0.1, (World.cell?_setCell_other _ _ _ _ (by intro e; injection e with e; exact q11 e.symm)).trans hS0.2.1, (World.cell?_setCell_other _ _ _ _ (by intro e; injection e with e; exact q21 e.symm)).trans hS0.2.2.1, (World.cell?_setCell_other _ _ _ _ (by intro e; injection e with e; exact q31 e.symm)).trans hS0.2.2.2.1, (World.cell?_setCell_other _ _ _ _ (by intro e; injection e with e; exact q41 e.symm)).trans hS0.2.2.2.2⟩ (fun hS1 => ?_)
  clear hK K
  refine wpAnyH_take (i := 11) (v := (.pointer (some ⟨g2, p, none⟩))) rfl (by kernel_rfl) (by kernel_rfl) (by kernel_rfl) (fun _ _ _ h => absurd h (hP _ _ _)) (.inl ⟨rfl, fun X hX => ?_⟩) hS1 ?_
  · obtain ⟨z1, z2, z3, z4, z5⟩ := hX; go_simp
  change wpAnyH _ _ _ _ _ _ _ { tmps := #[c0, c1, c2, (.pointer (some ⟨sd, 0, none⟩)), (.pointer (some ⟨ss, 0, none⟩)), (.pointer (some ⟨sy, 0, none⟩)), c6, c7, (.pointer (some ⟨sf, 0, none⟩)), (.int .i64 (p : Int)), c10, c11, c12, c13, c14, c15, c16, c17, c18, c19, c20, c21, c22, c23, c24, c25, c26, c27, c28, c29, c30, c31, c32, c33, c34, (.slice (some ⟨g1, 0, none⟩) n n), (.int .i64 (p : Int)), (.slice (some ⟨g2, 0, none⟩) n n), (.int .i64 (p : Int)), (.slice (some ⟨b, off, none⟩) nd capd), (.int .i64 (j : Int)), (.pointer (some ⟨b, off + j, none⟩)), (.int .i64 v), (.int .i64 (j : Int)), (.pointer (some ⟨g1, p, none⟩)), (.pointer (some ⟨g2, p, none⟩)), c46, c47, c48, c49, c50, c51, c52], defers := [] } _
  have h2' : (W.setCell ⟨g1, p, none⟩ (.int .i64 v)).cell? ⟨g2, p, none⟩ = some x2 := (World.cell?_setCell_other W _ _ _ (by intro e; injection e with e; exact hne2 e.symm)).trans h2
  have f2' : (W.setCell ⟨g1, p, none⟩ (.int .i64 v)).frozen? ⟨g2, p, none⟩ = false := by rw [World.frozen?_setCell]; exact f2
  refine wpAnyH_ready (rs := [12]) (by kernel_rfl) (by simp) (AllReadyH.cons rfl (fun K hK => ?_) AllReadyH.nil)
  go_simp
  refine hK.out _ _ ⟨(World.cell?_setCell_other _ _ _ _ (by intro e; injection e with e; exact q02 e.symm)).trans hS1.1, (World.cell?_setCell_other _ _ _ _ (by intro e; injection e with e; exact q12 e.symm)).trans hS1.2.1, (World.cell?_setCell_other _ _ _ _ (by intro e; injection e with e; exact q22 e.symm)).trans hS1.2.2.1, (World.cell?_setCell_other _ _ _ _ (by intro e; injection e with e; exact q32 e.symm)).trans hS1.2.2.2.1, (World.cell?_setCell_other _ _ _ _ (by intro e; injection e with e; exact q42 e.symm)).trans hS1.2.2.2.2⟩ (fun hS2 => ?_)
  exact wpAnyH_done (by kernel_rfl) hN _

end Go.Proofs.Ytofllhbcediafaa

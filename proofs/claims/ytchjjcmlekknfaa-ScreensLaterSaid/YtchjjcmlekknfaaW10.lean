/- The region of earliest that draws, in a round. -/
import Derived.Test.YtchjjcmlekknfaaW9
import Derived.Deep.RegionHeld
namespace Go.Proofs.Ytchjjcmlekknfaa
open Go.RowKit
set_option linter.unusedVariables false
set_option linter.unusedSimpArgs false

def findRegion (n : Nat) : Code → Option Code
  | .region id ops d => if id = n then some (.region id ops d) else none
  | .seq a b => (findRegion n a).orElse (fun _ => findRegion n b)
  | .cond _ a b => (findRegion n a).orElse (fun _ => findRegion n b)
  | .block _ c => findRegion n c
  | .loop c => findRegion n c
  | .scope c => findRegion n c
  | .rangeFunc _ _ a b => (findRegion n a).orElse (fun _ => findRegion n b)
  | _ => none
noncomputable def earReg : Code := (Try.f27.body.bind (findRegion 8)).getD .skip
def endF (B : Nat) : Value := .func (.func 29) #[.pointer (some ⟨B, 0, none⟩)] #[]

set_option maxRecDepth 10000 in
set_option maxHeartbeats 1000000 in
theorem ear_region {la : Nat} {Q : Exit → Act → World → Prop} {W : World} {c1 c6 c7 c8 c9 c10 c11 c12 c13 c14 c15 c16 c17 c18 c19 c20 c21 c22 c23 c24 c25 c26 c27 c28 c29 c30 c31 c32 c33 c34 c35 c36 c37 : Value} {B H bj c i j : Nat} {A : Option Addr} {q : Sc.Qs} {hj hi : Int}
    (hm : QM W B A c q) (hq : Sc.ok q) (hij : i < j) (hjn : j ≤ q.r.length) (h0 : 0 ≤ hi) (hhi : hi ≤ 1125899906842624)
    (x1 : W.cell? ⟨bj, 0, none⟩ = some (.int .i64 (j : Int))) (x2 : W.cell? ⟨H + 1, 0, none⟩ = some (.func (.func 29) #[.pointer (some ⟨B, 0, none⟩)] #[])) (x3 : W.cell? ⟨H, i, none⟩ = some (.int .i64 hi)) (x4 : W.cell? ⟨H, j, none⟩ = some (.int .i64 hj)) (f4 : W.frozen? ⟨H, j, none⟩ = false)
    (n1 : bj ≠ H)
    (hQ : ∀ a w, ¬ Q .outgrown a w) (hP : ∀ c a w, ¬ Q (.panic c) a w) (hN : ∀ a n, Q .normal a ((W.drewN n).setCell ⟨H, j, none⟩ (.int .i64 (min hj (Sc.scr q i j hi))))) :
    earReg.wpIn (Fence.wide.inRound la) 0 Try.prog Q { tmps := #[(.pointer (some ⟨B, 0, none⟩)), c1, (.pointer (some ⟨H, 0, none⟩)), (.pointer (some ⟨H + 1, 0, none⟩)), (.pointer (some ⟨bj, 0, none⟩)), (.int .i64 (i : Int)), c6, c7, c8, c9, c10, c11, c12, c13, c14, c15, c16, c17, c18, c19, c20, c21, c22, c23, c24, c25, c26, c27, c28, c29, c30, c31, c32, c33, c34, c35, c36, c37], defers := [] } W := by
  conv => arg 4; whnf
  have hmix : Try.prog.follows .mixedOrders = true := by kernel_rfl
  have hn := hq.n
  have b1 : (0 : Int) ≤ (j : Int) := by omega
  have b2 : (j : Int) < 65 := by omega
  have b3 : (0 : Int) ≤ (i : Int) := by omega
  have b4 : (i : Int) < 65 := by omega
  refine wpIn_round_held (S := fun X => X.cell? ⟨bj, 0, none⟩ = some (.int .i64 (j : Int)) ∧ X.cell? ⟨H + 1, 0, none⟩ = some (.func (.func 29) #[.pointer (some ⟨B, 0, none⟩)] #[]) ∧ X.cell? ⟨H, i, none⟩ = some (.int .i64 hi)) hmix (by simp) hQ ?_
  have hS0 : (fun X => X.cell? ⟨bj, 0, none⟩ = some (.int .i64 (j : Int)) ∧ X.cell? ⟨H + 1, 0, none⟩ = some (.func (.func 29) #[.pointer (some ⟨B, 0, none⟩)] #[]) ∧ X.cell? ⟨H, i, none⟩ = some (.int .i64 hi)) W.drew := ⟨x1, x2, x3⟩
  have HS2 := Lib.hid (fun (m n : Nat) (v : Value) => show (fun X => X.cell? ⟨bj, 0, none⟩ = some (.int .i64 (j : Int)) ∧ X.cell? ⟨H + 1, 0, none⟩ = some (.func (.func 29) #[.pointer (some ⟨B, 0, none⟩)] #[]) ∧ X.cell? ⟨H, i, none⟩ = some (.int .i64 hi)) (((W.drewN m).drewN n).setCell ⟨H, j, none⟩ v) from
    ⟨(World.cell?_setCell_other _ ⟨H, j, none⟩ ⟨bj, 0, none⟩ v (by intro e; injection e with e1 e2; exact n1 e1.symm)).trans x1, (World.cell?_setCell_other _ ⟨H, j, none⟩ ⟨H + 1, 0, none⟩ v (by intro e; injection e with e1 e2; omega)).trans x2, (World.cell?_setCell_other _ ⟨H, j, none⟩ ⟨H, i, none⟩ v (by intro e; injection e with e1 e2; omega)).trans x3⟩)
  refine wpAnyH_take (i := 0) (v := (.int .i64 (j : Int))) rfl (by kernel_rfl) (by kernel_rfl) (by kernel_rfl) (fun _ _ _ h => absurd h (hP _ _ _)) (.inl ⟨rfl, fun X hX => ?_⟩) hS0 ?_
  · obtain ⟨z1, z2, z3⟩ := hX; go_simp
  simp only [Act.put, List.setIfInBounds_toArray, List.set_cons_zero, List.set_cons_succ]
  refine wpAnyH_take (i := 1) (v := (.int .i64 (j : Int))) rfl (by kernel_rfl) (by kernel_rfl) (by kernel_rfl) (fun _ _ _ h => absurd h (hP _ _ _)) (.inl ⟨rfl, fun X hX => ?_⟩) hS0 ?_
  · obtain ⟨z1, z2, z3⟩ := hX; go_simp
  simp only [Act.put, List.setIfInBounds_toArray, List.set_cons_zero, List.set_cons_succ]
  refine wpAnyH_take (i := 2) (v := (.pointer (some ⟨H, j, none⟩))) rfl (by kernel_rfl) (by kernel_rfl) (by kernel_rfl) (fun _ _ _ h => absurd h (hP _ _ _)) (.inl ⟨rfl, fun X hX => ?_⟩) hS0 ?_
  · obtain ⟨z1, z2, z3⟩ := hX; go_simp
  simp only [Act.put, List.setIfInBounds_toArray, List.set_cons_zero, List.set_cons_succ]
  refine wpAnyH_take (i := 4) (v := (.func (.func 29) #[.pointer (some ⟨B, 0, none⟩)] #[])) rfl (by kernel_rfl) (by kernel_rfl) (by kernel_rfl) (fun _ _ _ h => absurd h (hP _ _ _)) (.inl ⟨rfl, fun X hX => ?_⟩) hS0 ?_
  · obtain ⟨z1, z2, z3⟩ := hX; go_simp
  simp only [Act.put, List.setIfInBounds_toArray, List.set_cons_zero, List.set_cons_succ]
  refine wpAnyH_take (i := 5) (v := (.int .i64 (i : Int))) rfl (by kernel_rfl) (by kernel_rfl) (by kernel_rfl) (fun _ _ _ h => absurd h (hP _ _ _)) (.inl ⟨rfl, fun X hX => ?_⟩) hS0 ?_
  · obtain ⟨z1, z2, z3⟩ := hX; go_simp
  simp only [Act.put, List.setIfInBounds_toArray, List.set_cons_zero, List.set_cons_succ]
  refine wpAnyH_take (i := 6) (v := (.int .i64 (j : Int))) rfl (by kernel_rfl) (by kernel_rfl) (by kernel_rfl) (fun _ _ _ h => absurd h (hP _ _ _)) (.inl ⟨rfl, fun X hX => ?_⟩) hS0 ?_
  · obtain ⟨z1, z2, z3⟩ := hX; go_simp
  simp only [Act.put, List.setIfInBounds_toArray, List.set_cons_zero, List.set_cons_succ]
  refine wpAnyH_take (i := 7) (v := (.int .i64 (i : Int))) rfl (by kernel_rfl) (by kernel_rfl) (by kernel_rfl) (fun _ _ _ h => absurd h (hP _ _ _)) (.inl ⟨rfl, fun X hX => ?_⟩) hS0 ?_
  · obtain ⟨z1, z2, z3⟩ := hX; go_simp
  simp only [Act.put, List.setIfInBounds_toArray, List.set_cons_zero, List.set_cons_succ]
  refine wpAnyH_take (i := 8) (v := (.pointer (some ⟨H, i, none⟩))) rfl (by kernel_rfl) (by kernel_rfl) (by kernel_rfl) (fun _ _ _ h => absurd h (hP _ _ _)) (.inl ⟨rfl, fun X hX => ?_⟩) hS0 ?_
  · obtain ⟨z1, z2, z3⟩ := hX; go_simp
  simp only [Act.put, List.setIfInBounds_toArray, List.set_cons_zero, List.set_cons_succ]
  refine wpAnyH_take (i := 9) (v := (.int .i64 hi)) rfl (by kernel_rfl) (by kernel_rfl) (by kernel_rfl) (fun _ _ _ h => absurd h (hP _ _ _)) (.inl ⟨rfl, fun X hX => ?_⟩) hS0 ?_
  · obtain ⟨z1, z2, z3⟩ := hX; go_simp
  simp only [Act.put, List.setIfInBounds_toArray, List.set_cons_zero, List.set_cons_succ]
  refine wpAnyH_ready (rs := [3, 10]) (by kernel_rfl) (by simp) ?_
  refine AllReadyH.cons rfl (fun K hK => ?_) (AllReadyH.cons rfl (fun K hK => ?_) AllReadyH.nil)
  · go_simp
    refine hK.out _ _ hS0 ?_
    intro _
    clear hK K
    refine wpAnyH_ready (rs := [10]) (by kernel_rfl) (by simp) ?_
    refine AllReadyH.cons rfl (fun K hK => ?_) AllReadyH.nil
    go_simp
    refine (end_any B A c q i j hi _ (hm.drewN 1) hq hij hjn h0 hhi).mono ?_
    rintro e w' ⟨rfl, nn, rfl⟩
    refine hK.out _ _ hS0 ?_
    intro _
    clear hK K
    refine wpAnyH_take (i := 11) (v := (.int .i64 (min hj (Sc.scr q i j hi)))) rfl (by kernel_rfl) (by kernel_rfl) (by kernel_rfl) (fun _ _ _ h => absurd h (hP _ _ _)) (.inl ⟨rfl, fun X hX => ?_⟩) hS0 ?_
    · obtain ⟨z1, z2, z3⟩ := hX; go_simp; omega
    simp only [Act.put, List.setIfInBounds_toArray, List.set_cons_zero, List.set_cons_succ]
    refine wpAnyH_take (i := 12) (v := (.pointer (some ⟨H, j, none⟩))) rfl (by kernel_rfl) (by kernel_rfl) (by kernel_rfl) (fun _ _ _ h => absurd h (hP _ _ _)) (.inl ⟨rfl, fun X hX => ?_⟩) hS0 ?_
    · obtain ⟨z1, z2, z3⟩ := hX; go_simp
    simp only [Act.put, List.setIfInBounds_toArray, List.set_cons_zero, List.set_cons_succ]
    refine wpAnyH_ready (rs := [13]) (by kernel_rfl) (by simp) ?_
    refine AllReadyH.cons rfl (fun K hK => ?_) AllReadyH.nil
    go_simp
    refine hK.out _ _ (HS2.out 1 nn _) ?_
    intro _
    clear hK K
    refine wpAnyH_done (by kernel_rfl) ?_ _
    exact hN _ _
  · go_simp
    refine (end_any B A c q i j hi _ (hm.drewN 1) hq hij hjn h0 hhi).mono ?_
    rintro e w' ⟨rfl, nn, rfl⟩
    refine hK.out _ _ hS0 ?_
    intro _
    clear hK K
    refine wpAnyH_ready (rs := [3]) (by kernel_rfl) (by simp) ?_
    refine AllReadyH.cons rfl (fun K hK => ?_) AllReadyH.nil
    go_simp
    refine hK.out _ _ hS0 ?_
    intro _
    clear hK K
    refine wpAnyH_take (i := 11) (v := (.int .i64 (min hj (Sc.scr q i j hi)))) rfl (by kernel_rfl) (by kernel_rfl) (by kernel_rfl) (fun _ _ _ h => absurd h (hP _ _ _)) (.inl ⟨rfl, fun X hX => ?_⟩) hS0 ?_
    · obtain ⟨z1, z2, z3⟩ := hX; go_simp; omega
    simp only [Act.put, List.setIfInBounds_toArray, List.set_cons_zero, List.set_cons_succ]
    refine wpAnyH_take (i := 12) (v := (.pointer (some ⟨H, j, none⟩))) rfl (by kernel_rfl) (by kernel_rfl) (by kernel_rfl) (fun _ _ _ h => absurd h (hP _ _ _)) (.inl ⟨rfl, fun X hX => ?_⟩) hS0 ?_
    · obtain ⟨z1, z2, z3⟩ := hX; go_simp
    simp only [Act.put, List.setIfInBounds_toArray, List.set_cons_zero, List.set_cons_succ]
    refine wpAnyH_ready (rs := [13]) (by kernel_rfl) (by simp) ?_
    refine AllReadyH.cons rfl (fun K hK => ?_) AllReadyH.nil
    go_simp
    refine hK.out _ _ (HS2.out 1 nn _) ?_
    intro _
    clear hK K
    refine wpAnyH_done (by kernel_rfl) ?_ _
    exact hN _ _
end Go.Proofs.Ytchjjcmlekknfaa

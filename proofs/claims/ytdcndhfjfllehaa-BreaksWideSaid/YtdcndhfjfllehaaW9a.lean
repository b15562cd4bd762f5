/- The region of solve that draws: append to the ends of another row, out of its context. -/
import Derived.Test.YtdcndhfjfllehaaW9
import Derived.Test.YtdcndhfjfllehaaArr
import Derived.Deep.RegionHeld3
namespace Go.Proofs.Ytdcndhfjfllehaa
open Go.RowKit
set_option linter.unusedVariables false
set_option linter.unusedSimpArgs false
attribute [local go_sem] Oper.semAt_some

def findRegion (n : Nat) : Code → Option Code
  | .region id ops d => if id = n then some (.region id ops d) else none
  | .seq a b => (findRegion n a).orElse (fun _ => findRegion n b)
  | .cond _ a b => (findRegion n a).orElse (fun _ => findRegion n b)
  | .block _ c => findRegion n c
  | .loop c => findRegion n c
  | .scope c => findRegion n c
  | .rangeFunc _ _ a b => (findRegion n a).orElse (fun _ => findRegion n b)
  | _ => none
noncomputable def growReg : Code := (Try.f24.body.bind (findRegion 15)).getD .skip
theorem run_grow2 {P : Nat → Prop} {W X : World} {Av : Option Addr} {n cv : Nat} {xs : List Int} (ty : TypeId) (h : IsIB P W (.slice Av n cv) xs) (hb : Below W.heap.size W X) (hl : xs.length ≤ 1000) {ad : Nat} {y : Int} (hc : X.cell? ⟨ad, 0, none⟩ = some (.int .i64 y)) (c1 : Nat) :
    ∃ v' X', (Builtin.append_ #[22, 22] ty #[.slice Av n n, .slice (some ⟨ad, 0, none⟩) 1 c1]).run Try.prog X = .ok v' X' ∧ (OwnInts X' X.heap.size v' (xs ++ [y]) ∧ X.grownBy X' none) :=
  run_grow1 ty (h.keep hb.size (fun b _ hlt => hb.block b hlt)) hl hc c1
theorem grow_fact {P : Nat → Prop} {W : World} {Av : Option Addr} {cv : Nat} {xs : List Int} (ty : TypeId) (h : IsIB P W (.slice Av xs.length cv) xs) (hl : xs.length ≤ 64) {y : Int} :
    ∃ v' X', (Builtin.append_ #[22, 22] ty #[.slice Av xs.length xs.length, .slice (some ⟨W.heap.size, 0, none⟩) 1 1]).run Try.prog (W.alloc (.cells #[.int .i64 y] 3)).drew = .ok v' X' ∧ (OwnInts X' (W.heap.size + 1) v' (xs ++ [y]) ∧ (W.alloc (.cells #[.int .i64 y] 3)).drew.grownBy X' none) := by
  obtain ⟨v', X', h1, h2, h3⟩ := run_grow2 (X := (W.alloc (.cells #[.int .i64 y] 3)).drew) ty h (below_drewN (al1 W _) 1) (by omega) (ad := W.heap.size) (y := y) ((Boxed.new W 3 (.int .i64 y)).cell) 1
  refine ⟨v', X', h1, ?_, h3⟩
  have e : (W.alloc (.cells #[.int .i64 y] 3)).drew.heap.size = W.heap.size + 1 := by simp [World.drew]
  rwa [e] at h2
theorem grow_cells {W X : World} {sl si sf g k : Nat} {o : Obj} {a b c d : Value} (h : (W.alloc o).drew.grownBy X none) (h1 : W.cell? ⟨sl, 0, none⟩ = some a) (h2 : W.cell? ⟨si, 0, none⟩ = some b) (h3 : W.cell? ⟨sf, 0, none⟩ = some c) (h4 : W.cell? ⟨g, k, none⟩ = some d) (h5 : W.frozen? ⟨g, k, none⟩ = false) :
    X.cell? ⟨sl, 0, none⟩ = some a ∧ X.cell? ⟨si, 0, none⟩ = some b ∧ X.cell? ⟨sf, 0, none⟩ = some c ∧ X.cell? ⟨g, k, none⟩ = some d ∧ X.frozen? ⟨g, k, none⟩ = false := by
  have hb : Below W.heap.size W X := (below_drewN ((Below.refl _ W).alloc (Nat.le_refl _) o) 1).grown h (by simp) (fun g hg => by cases hg)
  refine ⟨(hb.cell (cell_lt h1)).trans h1, (hb.cell (cell_lt h2)).trans h2, (hb.cell (cell_lt h3)).trans h3, (hb.cell (cell_lt h4)).trans h4, ?_⟩
  have := hb.block g (cell_lt h4)
  rw [← h5]; unfold World.frozen?; rw [this]
set_option maxRecDepth 10000 in
set_option maxHeartbeats 4000000 in
theorem grow_region {Q : Exit → Act → World → Prop} {P : Nat → Prop} {W : World} {c0 c1 c2 c3 c7 c8 c9 c11 c12 c13 c14 c15 c16 c17 c18 c19 c20 c21 c22 c23 c24 c25 c26 c27 c28 c29 c30 c31 c32 c33 c34 c35 c36 c37 c38 c39 c40 c41 c42 c43 c44 c45 c46 c47 c48 c49 c50 c51 c52 c53 c54 c55 c56 c57 c58 c59 c60 c61 c62 c63 c64 c65 c66 c67 c68 c69 c70 c71 : Value} {df : List Deferred} {sl si sf g n1 i j cv : Nat} {Av : Option Addr} {rv : List Int}
    (hl : W.cell? ⟨sl, 0, none⟩ = some (.slice (some ⟨g, 0, none⟩) n1 n1)) (hi : W.cell? ⟨si, 0, none⟩ = some (.int .i64 (i : Int))) (hf : W.cell? ⟨sf, 0, none⟩ = some (.int .i64 (j : Int))) (hg : W.cell? ⟨g, i * 2 + 1, none⟩ = some (.slice none 0 0)) (hz : W.frozen? ⟨g, i * 2 + 1, none⟩ = false)
    (hib : IsIB P W (.slice Av rv.length cv) rv) (hrl : rv.length ≤ 64) (hin : i < n1) (hq1 : sl ≠ g) (hq2 : si ≠ g) (hq3 : sf ≠ g)
    (hN : ∀ v X', OwnInts X' (W.heap.size + 1) v (rv ++ [(j : Int)]) → Below W.heap.size W X' → Q .normal { tmps := List.toArray (c0 :: c1 :: c2 :: c3 :: (.pointer (some ⟨sl, 0, none⟩)) :: (.pointer (some ⟨si, 0, none⟩)) :: (.pointer (some ⟨sf, 0, none⟩)) :: c7 :: c8 :: c9 :: (.slice Av rv.length cv) :: c11 :: c12 :: c13 :: c14 :: c15 :: c16 :: c17 :: c18 :: c19 :: c20 :: c21 :: c22 :: c23 :: c24 :: c25 :: c26 :: c27 :: c28 :: c29 :: c30 :: c31 :: c32 :: c33 :: c34 :: c35 :: c36 :: c37 :: c38 :: c39 :: c40 :: c41 :: c42 :: c43 :: c44 :: c45 :: c46 :: c47 :: c48 :: c49 :: c50 :: c51 :: c52 :: c53 :: c54 :: c55 :: c56 :: (.slice (some ⟨g, 0, none⟩) n1 n1) :: (.int .i64 (i : Int)) :: (.slice Av rv.length cv) :: (.slice Av rv.length cv) :: (.int .i64 (rv.length : Int)) :: (.slice Av rv.length cv) :: (.int .i64 (rv.length : Int)) :: (.slice Av rv.length rv.length) :: (.int .i64 (j : Int)) :: (.slice (some ⟨W.heap.size, 0, none⟩) 1 1) :: v :: (.pointer (some ⟨g, i * 2, none⟩)) :: (.pointer (some ⟨g, i * 2 + 1, none⟩)) :: c70 :: c71 :: []), defers := df } (X'.setCell ⟨g, i * 2 + 1, none⟩ v)) :
    growReg.wp Try.prog Q { tmps := List.toArray (c0 :: c1 :: c2 :: c3 :: (.pointer (some ⟨sl, 0, none⟩)) :: (.pointer (some ⟨si, 0, none⟩)) :: (.pointer (some ⟨sf, 0, none⟩)) :: c7 :: c8 :: c9 :: (.slice Av rv.length cv) :: c11 :: c12 :: c13 :: c14 :: c15 :: c16 :: c17 :: c18 :: c19 :: c20 :: c21 :: c22 :: c23 :: c24 :: c25 :: c26 :: c27 :: c28 :: c29 :: c30 :: c31 :: c32 :: c33 :: c34 :: c35 :: c36 :: c37 :: c38 :: c39 :: c40 :: c41 :: c42 :: c43 :: c44 :: c45 :: c46 :: c47 :: c48 :: c49 :: c50 :: c51 :: c52 :: c53 :: c54 :: c55 :: c56 :: c57 :: c58 :: c59 :: c60 :: c61 :: c62 :: c63 :: c64 :: c65 :: c66 :: c67 :: c68 :: c69 :: c70 :: c71 :: []), defers := df } W := by
  have HIB := Lib.hid hib
  have HN := Lib.hid hN
  have hl0 := cell_lt hl
  have hl1 := cell_lt hi
  have hl2 := cell_lt hf
  have hl3 := cell_lt hg
  dsimp only at hl0 hl1 hl2 hl3
  clear hib hN
  conv => arg 2; whnf
  have hcv : rv.length ≤ cv := by
    obtain ⟨A, c, e, h1, _⟩ := HIB.out
    injection e with e1 e2 e3
    subst e3
    exact h1.2
  have hcv' : (rv.length : Int) ≤ (cv : Int) := by omega
  have hn0 : Av = none → rv.length = 0 := by
    obtain ⟨A, c, e, _, h2⟩ := HIB.out
    injection e with e1 e2 e3
    subst e1
    intro h
    apply Classical.byContradiction
    intro hne
    obtain ⟨b, off, ea, _⟩ := h2 (by intro e; rw [e] at hne; exact hne rfl)
    rw [h] at ea; cases ea
  cases Av with
  | none =>
    obtain rfl : rv = [] := List.eq_nil_of_length_eq_zero (hn0 rfl)
    obtain rfl : cv = 0 := by
      obtain ⟨A, c, e, h1, _⟩ := HIB.out
      injection e with e1 e2 e3
      subst e1 e3
      exact h1.1 rfl
    clear hn0 hcv hcv' hrl
    simp only [List.length_nil] at HIB ⊢
    go_region_held3 (fun X => X.cell? ⟨sl, 0, none⟩ = some (.slice (some ⟨g, 0, none⟩) n1 n1) ∧ X.cell? ⟨si, 0, none⟩ = some (.int .i64 (i : Int)) ∧ X.cell? ⟨sf, 0, none⟩ = some (.int .i64 (j : Int))) (go_keep)
      ((refine step_run (by rfl) (.tmp 64) (.tmp 66) _ _ (fun v' X' => OwnInts X' (W.heap.size + 1) v' ([] ++ [(j : Int)]) ∧ (W.alloc (.cells #[.int .i64 (j : Int)] 3)).drew.grownBy X' none) (by rfl) (by rfl) (by rfl) (grow_fact 22 HIB.out (by simp)) ?_; rintro v X1 ⟨hown, hgr⟩; have HOW := Lib.hid hown; have HGR := Lib.hid hgr; obtain ⟨k1, k2, k3, k4, k5⟩ := grow_cells hgr hl hi hf hg hz; obtain ⟨Ax, cx, hvx⟩ := own_len hown; subst hvx; have k6 := fun u => (World.cell?_setCell_other X1 ⟨g, i * 2 + 1, none⟩ ⟨sl, 0, none⟩ u (by intro e; injection e with e; exact hq1 e.symm)).trans k1; have k7 := fun u => (World.cell?_setCell_other X1 ⟨g, i * 2 + 1, none⟩ ⟨si, 0, none⟩ u (by intro e; injection e with e; exact hq2 e.symm)).trans k2; have k8 := fun u => (World.cell?_setCell_other X1 ⟨g, i * 2 + 1, none⟩ ⟨sf, 0, none⟩ u (by intro e; injection e with e; exact hq3 e.symm)).trans k3; clear hown hgr))
    refine HN.out _ _ (by have h := HOW.out; simpa only [List.length_append, List.length_cons, List.length_nil, Nat.zero_add] using h) ?_
    exact (below_drewN ((Below.refl _ W).alloc (Nat.le_refl _) _) 1).grown HGR.out (by simp [World.drew]) (fun g hg => by cases hg)
  | some ba =>
    clear hn0
    go_region_held3 (fun X => X.cell? ⟨sl, 0, none⟩ = some (.slice (some ⟨g, 0, none⟩) n1 n1) ∧ X.cell? ⟨si, 0, none⟩ = some (.int .i64 (i : Int)) ∧ X.cell? ⟨sf, 0, none⟩ = some (.int .i64 (j : Int))) (go_keep)
      ((refine step_run (by rfl) (.tmp 64) (.tmp 66) _ _ (fun v' X' => OwnInts X' (W.heap.size + 1) v' (rv ++ [(j : Int)]) ∧ (W.alloc (.cells #[.int .i64 (j : Int)] 3)).drew.grownBy X' none) (by rfl) (by rfl) (by rfl) (grow_fact 22 HIB.out hrl) ?_; rintro v X1 ⟨hown, hgr⟩; have HOW := Lib.hid hown; have HGR := Lib.hid hgr; obtain ⟨k1, k2, k3, k4, k5⟩ := grow_cells hgr hl hi hf hg hz; obtain ⟨Ax, cx, hvx⟩ := own_len hown; subst hvx; have k6 := fun u => (World.cell?_setCell_other X1 ⟨g, i * 2 + 1, none⟩ ⟨sl, 0, none⟩ u (by intro e; injection e with e; exact hq1 e.symm)).trans k1; have k7 := fun u => (World.cell?_setCell_other X1 ⟨g, i * 2 + 1, none⟩ ⟨si, 0, none⟩ u (by intro e; injection e with e; exact hq2 e.symm)).trans k2; have k8 := fun u => (World.cell?_setCell_other X1 ⟨g, i * 2 + 1, none⟩ ⟨sf, 0, none⟩ u (by intro e; injection e with e; exact hq3 e.symm)).trans k3; clear hown hgr))
    refine HN.out _ _ (by have h := HOW.out; simpa only [List.length_append, List.length_cons, List.length_nil, Nat.zero_add] using h) ?_
    exact (below_drewN ((Below.refl _ W).alloc (Nat.le_refl _) _) 1).grown HGR.out (by simp [World.drew]) (fun g hg => by cases hg)
end Go.Proofs.Ytdcndhfjfllehaa

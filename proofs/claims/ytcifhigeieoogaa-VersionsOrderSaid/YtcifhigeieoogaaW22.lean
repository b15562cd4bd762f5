/- Bytes in memory; appending any amendments; a store of one element into an own record. -/
import Derived.Test.YtcifhigeieoogaaW21
import Derived.Test.YtcifhigeieoogaaOpen3
import Derived.Test.YtcifhigeieoogaaPlain5
import Derived.Deep.Slices
namespace Go.Proofs.Ytcifhigeieoogaa
open Go.RowKit
set_option linter.unusedVariables false
set_option linter.unusedSimpArgs false
attribute [local go_sem] frozen_new
/-- a slice of bytes reads as a list -/
def IsU8 (w : World) (v : Value) (xs : List Int) : Prop := ∃ A c, v = .slice A xs.length c ∧ RowAt w A (xs.map (Value.int .u8))
theorem IsU8.upb {w w' : World} {v : Value} {xs : List Int} (h : IsU8 w v xs) (hb : Below w.heap.size w w') : IsU8 w' v xs := by
  obtain ⟨A, c, e, hr⟩ := h
  exact ⟨A, c, e, hr.below hb⟩
section
open Go.ChangeShapes Go.WideShapes Go.Deep
variable {H : Type} {enc : TypeId × Value → H} {w : World} {base : Nat} {spare : Nat → Bool} {held : Bool}
theorem open_isU8 {fuel : Nat} {v : Value} {x : DataW H × List MemPlace} (h : DataW.trod enc Try.prog w base spare held fuel 23 [v] = some x) :
    ∃ xs : List Int, IsU8 w v xs ∧ xs.length ≤ 9223372036854775807 ∧ ∀ y ∈ xs, 0 ≤ y ∧ y ≤ 255 := by
  rcases open_ints Try.underlying23 Try.underlying5 (by kernel_rfl) h with ⟨hcs, _⟩ | ⟨x, l, c, zs, hcs, _, hl, hm, hz, _, hcell, hwz⟩
  · simp at hcs
    subst hcs
    exact ⟨[], ⟨none, 0, rfl, RowAt.nil⟩, by simp, by simp⟩
  · simp at hcs
    subst hcs
    unfold maxLen at hm
    have hlz : l ≤ zs.length := by rw [hz]; split <;> omega
    have hlen : (zs.take l).length = l := by simp; omega
    refine ⟨zs.take l, ⟨some x, c, by rw [hlen], rowAt_of fun i hi => ?_⟩, by omega, fun y hy => ?_⟩
    · simp only [List.length_map, hlen] at hi
      rw [hcell i (by omega)]
      simp [List.getD_eq_getElem?_getD, List.getElem?_eq_getElem (show i < zs.length by omega)]
    · have wp := hwz y (List.mem_of_mem_take hy)
      have h5 : IntKind.u8.min ≤ y ∧ y ≤ IntKind.u8.max := by simpa [Lit.wf] using wp
      have h6 : IntKind.u8.min = 0 := by rfl
      have h7 : IntKind.u8.max = 255 := by rfl
      omega
end
theorem wpList_appA {W : World} {ops : Array Oper} {rest : List Oper} {o : Oper} {a : Act} {Q : Exit → Act → World → Prop} (hgd : o.guard = none) (s x : Operand)
    (ho : o.op = .call { callee := .builtin .append, args := #[s, x], argTypes := #[22, 22] })
    (base : Nat) (v u : Value) (xs ys : List Am) (hs : a.eval s = v) (hx : a.eval x = u) (hown : OwnAs W base v xs) (hu : IsAs W u ys) (hlen : xs.length + ys.length ≤ 1000000) (hb : base ≤ W.heap.size)
    (hk : ∀ v' w', OwnAs w' base v' (xs ++ ys) → W.grownBy w' v.ownBlock → (v'.ownBlock = v.ownBlock ∨ v'.ownBlock = some W.heap.size) → wpList Try.prog ops Q rest (a.put o.dst v') w') : wpList Try.prog ops Q (o :: rest) a W := by
  obtain ⟨v', w', hr, h2, h3, h5⟩ := appH_run W base o.type v u xs ys hown hu hlen hb
  refine wpList_plain hgd fun K hK => ?_
  unfold Oper.wp execOp
  simp only [ho, resolve, invoke, builtin, Sem.run_bind, Sem.run_pure, Result.andThen_ok, List.map_toArray, List.map_cons, List.map_nil, hs, hx, hr]
  exact hK _ _ (hk v' w' h2 h3 h5)
theorem flat_set (l : List Am) (j : Nat) (x : Am) (hj : j < l.length) : (l.set j x).flatMap encA = (((((((l.flatMap encA).set (j * 6) (.int .i64 x.no)).set (j * 6 + 1) (.int .i64 x.at_)).set (j * 6 + 2) (.int .i64 x.known)).set (j * 6 + 3) (.int .i64 x.key)).set (j * 6 + 4) (.int .i64 x.value)).set (j * 6 + 5) (.bool x.gone)) := by
  induction l generalizing j with
  | nil => simp at hj
  | cons a l ih =>
    cases j with
    | zero =>
      rw [List.set_cons_zero, List.flatMap_cons, List.flatMap_cons]
      generalize l.flatMap encA = r
      simp only [Nat.zero_mul, Nat.zero_add]
      rfl
    | succ j =>
      rw [List.set_cons_succ, List.flatMap_cons, List.flatMap_cons, ih j (by simpa using hj)]
      have e : ∀ (r : List Value) (i : Nat) (v : Value), (encA a ++ r).set ((j + 1) * 6 + i) v = encA a ++ r.set (j * 6 + i) v := fun r i v => by
        rw [List.set_append, if_neg (by simp [encA]; omega)]
        congr 2
        simp [encA]; omega
      have e0 : ∀ (r : List Value) (v : Value), (encA a ++ r).set ((j + 1) * 6) v = encA a ++ r.set (j * 6) v := fun r v => e r 0 v
      simp only [e0, e]
/-- one element is stored whole -/
def setE (W : World) (g j : Nat) (x : Am) : World := ((((((W.setCell ⟨g, j * 6, none⟩ (.int .i64 x.no)).setCell ⟨g, j * 6 + 1, none⟩ (.int .i64 x.at_)).setCell ⟨g, j * 6 + 2, none⟩ (.int .i64 x.known)).setCell ⟨g, j * 6 + 3, none⟩ (.int .i64 x.key)).setCell ⟨g, j * 6 + 4, none⟩ (.int .i64 x.value)).setCell ⟨g, j * 6 + 5, none⟩ (.bool x.gone))
theorem ownA_setE {W : World} {base g c : Nat} {xs : List Am} (h : OwnAs W base (.slice (some ⟨g, 0, none⟩) xs.length c) xs) {j : Nat} (hj : j < xs.length) (x : Am) : OwnAs (setE W g j x) base (.slice (some ⟨g, 0, none⟩) xs.length c) (xs.set j x) := by
  have hf := flat_set xs j x hj
  have hl : (xs.set j x).length = xs.length := List.length_set
  unfold OwnAs setE
  rw [hl, hf]
  exact (World.ownsRow.stored (World.ownsRow.stored (World.ownsRow.stored (World.ownsRow.stored (World.ownsRow.stored (World.ownsRow.stored h (j * 6) (.int .i64 x.no)).1 (j * 6 + 1) (.int .i64 x.at_)).1 (j * 6 + 2) (.int .i64 x.known)).1 (j * 6 + 3) (.int .i64 x.key)).1 (j * 6 + 4) (.int .i64 x.value)).1 (j * 6 + 5) (.bool x.gone)).1
theorem below_setE {n : Nat} {w W : World} (h : Below n w W) {g : Nat} (hg : n ≤ g) (j : Nat) (x : Am) : Below n w (setE W g j x) := by
  unfold setE
  exact ((((((h.setCell (p := ⟨g, j * 6, none⟩) hg _).setCell (p := ⟨g, j * 6 + 1, none⟩) hg _).setCell (p := ⟨g, j * 6 + 2, none⟩) hg _).setCell (p := ⟨g, j * 6 + 3, none⟩) hg _).setCell (p := ⟨g, j * 6 + 4, none⟩) hg _).setCell (p := ⟨g, j * 6 + 5, none⟩) hg _)
end Go.Proofs.Ytcifhigeieoogaa

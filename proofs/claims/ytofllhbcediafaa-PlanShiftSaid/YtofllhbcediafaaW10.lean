/- Rows of ints as one block; the ends of Latest. -/
import Derived.Test.YtofllhbcediafaaW9
import Derived.RegionTactic
import Derived.BigRegion
namespace Go.Proofs.Ytofllhbcediafaa
open Go.RowKit
set_option linter.unusedVariables false
attribute [local go_sem] Oper.semAt_some

def zeros (n : Nat) : Array Value := madeCells #[.int .i64 0] n

theorem make_ints (n : Nat) (hn : n ≤ 1048576) (w : World) : (Instr.makeSlice 23 (.int .i64 (n : Int)) (.int .i64 (n : Int))).run Try.prog w = .ok (.slice (some ⟨w.heap.size, 0, none⟩) n n) (w.alloc (.cells (zeros n) 3)) := by
  obtain ⟨i0, hi, hz0, hz1, hz2⟩ := info_parts infoInt
  have hb : (i0.bytes : Int) * (n : Int) ≤ 281474976710656 := by rw [hz2]; omega
  have hr := run_make (P := Try.prog) w 23 3 i0 _ Try.underlying23 hi hz0 .i64 .i64 n n (by omega) (by omega) hb (by omega)
  simp only [Int.toNat_natCast] at hr
  rw [hr, hz1, Nat.mul_one]
  rfl

/-- block g is a row of ints -/
def CellsI (W : World) (g : Nat) (xs : List Int) : Prop := W.heap[g]? = some (.cells (xs.map (Value.int .i64)).toArray 3 (0, 0))

theorem zeros_eq (n : Nat) : zeros n = ((List.replicate n (0 : Int)).map (Value.int .i64)).toArray := by
  apply Array.ext
  · simp [zeros, madeCells]
  · intro i h1 h2
    simp [zeros, madeCells, Nat.mod_one]
theorem CellsI.new (W : World) (n : Nat) : CellsI (W.alloc (.cells (zeros n) 3)) W.heap.size (List.replicate n 0) := by
  unfold CellsI; rw [World.alloc_heap_new, zeros_eq]
theorem CellsI.lt {W : World} {g : Nat} {xs : List Int} (h : CellsI W g xs) : g < W.heap.size := (Array.getElem?_eq_some_iff.1 h).1
theorem CellsI.alloc {W : World} {g : Nat} {xs : List Int} (h : CellsI W g xs) (o : Obj) : CellsI (W.alloc o) g xs := ((World.grownBy_alloc W o none).block g h.lt (by simp)).trans h
theorem CellsI.other {W : World} {g : Nat} {xs : List Int} (h : CellsI W g xs) (p : Addr) (hp : g ≠ p.block) (v : Value) : CellsI (W.setCell p v) g xs := (Below.heap_setCell W p v g hp).trans h
theorem CellsI.below {W W' : World} {g : Nat} {xs : List Int} (h : CellsI W g xs) (hb : Below W.heap.size W W') : CellsI W' g xs := (hb.block g h.lt).trans h
theorem CellsI.istep {B : Nat} {W W' : World} {g : Nat} {xs : List Int} (h : CellsI W g xs) (hb : IStep B W W') : CellsI W' g xs := hb.block g _ h (.inl rfl)
theorem CellsI.cell {W : World} {g : Nat} {xs : List Int} (h : CellsI W g xs) (k : Nat) (hk : k < xs.length) : W.cell? ⟨g, k, none⟩ = some (.int .i64 xs[k]) := by
  simp [World.cell?, show W.heap[g]? = _ from h, hk]
theorem CellsI.frozen {W : World} {g : Nat} {xs : List Int} (h : CellsI W g xs) (k : Nat) : W.frozen? ⟨g, k, none⟩ = false := by
  simp [World.frozen?, show W.heap[g]? = _ from h]
theorem CellsI.set {W : World} {g : Nat} {xs : List Int} (h : CellsI W g xs) (k : Nat) (v : Int) : CellsI (W.setCell ⟨g, k, none⟩ (.int .i64 v)) g (xs.set k v) := by
  obtain ⟨hlt, hk⟩ := Array.getElem?_eq_some_iff.1 h
  show (W.heap.modify g _)[g]? = _
  rw [Array.getElem?_eq_getElem (by rw [Array.size_modify]; exact hlt), Array.getElem_modify_self, hk]
  simp
theorem CellsI.ints {W : World} {g : Nat} {xs : List Int} (h : CellsI W g xs) (n : Nat) (hn : n = xs.length) : IsInts W (.slice (some ⟨g, 0, none⟩) n n) xs := by
  subst hn
  refine ⟨_, _, rfl, fun _ => ⟨g, 0, rfl, h.lt, fun k hk => ?_⟩⟩
  have hk' : k < xs.length := by simpa using hk
  rw [Nat.zero_add, h.cell k hk']
  simp

def Below3 (W : World) (n : Nat) (a b : Value) (x : Int) : Prop := Boxed W (n + 1) 23 a ∧ Boxed W (n + 1 + 1) 23 b ∧ Boxed W (n + 1 + 1 + 1) 26 (.int .i64 x)

theorem la_out {n : Nat} {W : World} {tmps : Array Value} {fn : Func} {a b : Value} {t : Bool} {x : Int} (hres : fn.results = #[.cell 4 23, .cell 5 23, .tmp 6, .cell 7 26]) (t4 : tmps.getD 4 undef = .pointer (some ⟨n + 1, 0, none⟩)) (t5 : tmps.getD 5 undef = .pointer (some ⟨n + 1 + 1, 0, none⟩)) (t6 : tmps.getD 6 undef = .bool t) (t7 : tmps.getD 7 undef = .pointer (some ⟨n + 1 + 1 + 1, 0, none⟩))
    (h : Below3 W n a b x) (ha : ∃ A l c, a = .slice A l c) (hb : ∃ A l c, b = .slice A l c) : (results fn tmps).run Try.prog W = .ok (.tuple #[a, b, .bool t, .int .i64 x]) W := by
  obtain ⟨h1, h2, h3⟩ := h
  obtain ⟨A, l, c, rfl⟩ := ha
  obtain ⟨A2, l2, c2, rfl⟩ := hb
  have hc1 := h1.cell
  have hc2 := h2.cell
  have hc3 := h3.cell
  have t4' : tmps[4]?.getD undef = .pointer (some ⟨n + 1, 0, none⟩) := by rw [← t4]; simp
  have t5' : tmps[5]?.getD undef = .pointer (some ⟨n + 1 + 1, 0, none⟩) := by rw [← t5]; simp
  have t6' : tmps[6]?.getD undef = .bool t := by rw [← t6]; simp
  have t7' : tmps[7]?.getD undef = .pointer (some ⟨n + 1 + 1 + 1, 0, none⟩) := by rw [← t7]; simp
  simp [results, hres, go_sem, t4', t5', t6', t7', hc1, hc2, hc3]

theorem Below3.istep {B n : Nat} {W W' : World} {a b : Value} {x : Int} (h : Below3 W n a b x) (hs : IStep B W W') : Below3 W' n a b x := ⟨hs.boxed h.1, hs.boxed h.2.1, hs.boxed h.2.2⟩

theorem la_end {n D : Nat} {W : World} {tmps : Array Value} {fn : Func} {a b : Value} {t : Bool} (hres : fn.results = #[.cell 4 23, .cell 5 23, .tmp 6, .cell 7 26]) (t4 : tmps.getD 4 undef = .pointer (some ⟨n + 1, 0, none⟩)) (t5 : tmps.getD 5 undef = .pointer (some ⟨n + 1 + 1, 0, none⟩)) (t6 : tmps.getD 6 undef = .bool t) (t7 : tmps.getD 7 undef = .pointer (some ⟨n + 1 + 1 + 1, 0, none⟩))
    (h : Below3 W n a b 0) (ha : ∃ A l c, a = .slice A l c) (hb : ∃ A l c, b = .slice A l c) (hD : n ≤ D) (hK : W.heap[D]? = some (.deferred (some []))) (R : Ending → World → Prop)
    (hR : IStep n W (W.putObj D (.deferred none)) → R (.returned (.tuple #[a, b, .bool t, .int .i64 0])) (W.putObj D (.deferred none))) :
    bodyPostM Fence.wide 0 Try.prog fn R .ret { tmps := tmps, defers := [{ target := .collected D, args := #[] }, { target := .fn (.func 23) #[], args := #[.pointer (some ⟨n + 1 + 1 + 1, 0, none⟩)] }] } W := by
  refine leavesM_mark (by simp) hK ?_
  have hs : IStep n W (W.putObj D (.deferred none)) := IStep.putObj _ hD hK rfl
  refine leavesM_fn (f := 23) (args := #[.pointer (some ⟨n + 1 + 1 + 1, 0, none⟩)]) (by simp) (by simp [go_sem]) ?_
  refine (caughtIn_idle _ _).mono ?_
  rintro e u' w2 ⟨rfl, rfl, rfl⟩
  exact ⟨_, la_out hres t4 t5 t6 t7 (h.istep hs) ha hb, hR hs⟩

theorem la_bad {n : Nat} {W : World} {tmps : Array Value} {fn : Func} {x : Int} (hres : fn.results = #[.cell 4 23, .cell 5 23, .tmp 6, .cell 7 26]) (t4 : tmps.getD 4 undef = .pointer (some ⟨n + 1, 0, none⟩)) (t5 : tmps.getD 5 undef = .pointer (some ⟨n + 1 + 1, 0, none⟩)) (t6 : tmps.getD 6 undef = .bool false) (t7 : tmps.getD 7 undef = .pointer (some ⟨n + 1 + 1 + 1, 0, none⟩))
    (h : Below3 W n (.slice none 0 0) (.slice none 0 0) 0) (R : Ending → World → Prop)
    (hR : R (.returned (.tuple #[.slice none 0 0, .slice none 0 0, .bool false, .int .i64 x])) (W.setCell ⟨n + 1 + 1 + 1, 0, none⟩ (.int .i64 x))) :
    bodyPostM Fence.wide 0 Try.prog fn R (.panic (bad x)) { tmps := tmps, defers := [{ target := .fn (.func 23) #[], args := #[.pointer (some ⟨n + 1 + 1 + 1, 0, none⟩)] }] } W := by
  refine leavesM_fn (f := 23) (args := #[.pointer (some ⟨n + 1 + 1 + 1, 0, none⟩)]) (by simp) (by simp [go_sem]) ?_
  refine (caughtIn_panics _ _ _ _ h.2.2.cell h.2.2.frozen).mono ?_
  rintro e u' w2 ⟨rfl, rfl, rfl⟩
  exact ⟨_, la_out hres t4 t5 t6 t7 ⟨h.1.other (B' := n + 1 + 1 + 1) (by omega) _, h.2.1.other (B' := n + 1 + 1 + 1) (by omega) _, h.2.2.set _⟩ ⟨_, _, _, rfl⟩ ⟨_, _, _, rfl⟩, hR⟩

end Go.Proofs.Ytofllhbcediafaa

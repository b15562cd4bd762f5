/- slices of a record, a record of one box, and a region's three appends. -/
import Derived.Test.YtcifhigeieoogaaAppA
namespace Go.Proofs.Ytcifhigeieoogaa
open Go Go.RowKit
set_option linter.unusedVariables false
set_option linter.unusedSimpArgs false

theorem hs_drop {w : World} {A : Option Addr} {l : List Am} (h : RowAt w A (l.flatMap encA)) (k : Nat) (hlt : k < l.length) : ∃ b off, A = some ⟨b, off, none⟩ ∧ RowAt w (some ⟨b, off + k * 6, none⟩) ((l.drop k).flatMap encA) := by
  have hl := flatA_len l
  obtain ⟨b, off, e, hb, hc⟩ := h (by intro h0; rw [h0] at hl; simp at hl; omega)
  refine ⟨b, off, e, fun hne => ⟨b, off + k * 6, rfl, hb, fun i hi => ?_⟩⟩
  have hs : l.flatMap encA = (l.take k).flatMap encA ++ (l.drop k).flatMap encA := by
    rw [← List.flatMap_append, List.take_append_drop]
  have ht : ((l.take k).flatMap encA).length = k * 6 := by rw [flatA_len, List.length_take]; omega
  have h2 := hc (k * 6 + i) (by rw [hs, List.length_append, ht]; omega)
  rw [Nat.add_assoc, h2, ← List.getElem?_eq_getElem hi, ← List.getElem?_eq_getElem (by rw [hs, List.length_append, ht]; omega), hs, List.getElem?_append_right (by omega), ht, Nat.add_sub_cancel_left]
theorem hs_take {w : World} {A : Option Addr} {l : List Am} (h : RowAt w A (l.flatMap encA)) (k : Nat) (hk : k ≤ l.length) (c : Nat) : IsAs w (.slice A k c) (l.take k) := by
  have hl := flatA_len l
  refine ⟨A, c, by rw [List.length_take, Nat.min_eq_left hk], fun hne => ?_⟩
  have hs : l.flatMap encA = (l.take k).flatMap encA ++ (l.drop k).flatMap encA := by
    rw [← List.flatMap_append, List.take_append_drop]
  obtain ⟨b, off, e, hb, hc⟩ := h (by intro h0; rw [h0] at hs; exact hne (List.append_eq_nil_iff.1 hs.symm).1)
  refine ⟨b, off, e, hb, fun i hi => ?_⟩
  have h2 := hc i (by rw [hs, List.length_append]; omega)
  rw [h2, ← List.getElem?_eq_getElem hi, ← List.getElem?_eq_getElem (by rw [hs, List.length_append]; omega), hs, List.getElem?_append_left hi]
theorem hs_nil0 {w : World} {A : Option Addr} {l : List Am} (c n : Nat) (hn : n = 0) (hl : l = []) : IsAs w (.slice A n c) l := by
  subst hn hl; exact ⟨A, c, rfl, RowAt.nil⟩
theorem hs_dropc {w : World} {b off : Nat} {l : List Am} (h : RowAt w (some ⟨b, off, none⟩) (l.flatMap encA)) (k n c : Nat) (hlt : k < l.length) (hn : n = l.length - k) : IsAs w (.slice (some ⟨b, off + k * 6, none⟩) n c) (l.drop k) := by
  obtain ⟨b2, off2, e, hr⟩ := hs_drop h k hlt
  cases e
  exact ⟨_, c, by rw [hn, List.length_drop], hr⟩
theorem BoxA.one {W : World} {B : Nat} {x : Am} (h : BoxA W B x) : IsAs W (.slice (some ⟨B, 0, none⟩) 1 1) [x] := by
  refine ⟨_, 1, rfl, fun _ => ⟨B, 0, rfl, h.lt, fun i hi => ?_⟩⟩
  rw [Nat.zero_add, World.cell?]
  simp only [show W.heap[B]? = _ from h]
  simp [encA] at hi
  rcases i with _ | _ | _ | _ | _ | _ | _ | _ | _ | _ | i <;> first | rfl | omega
theorem BoxA.grown {W W' : World} {B : Nat} {x : Am} {r : Option Nat} (h : BoxA W B x) (hg : W.grownBy W' r) (hne : some B ≠ r) : BoxA W' B x := (hg.block B h.lt hne).trans h
/-- a record under way in a region: the record's own block lies behind Wd, the box and what was there are kept. -/
structure Reg (w Wd : World) (x : Am) (X : World) (v : Value) (xs : List Am) : Prop where
  own : OwnAs X Wd.heap.size v xs
  below : Below w.heap.size w X
  box : BoxA X w.heap.size x
  sz : Wd.heap.size ≤ X.heap.size
  lt : w.heap.size < Wd.heap.size
theorem Reg.start {w Wd : World} {x : Am} (hb : Below w.heap.size w Wd) (hx : BoxA Wd w.heap.size x) : Reg w Wd x (Wd.alloc (.cells #[] 27)) (.slice (some ⟨Wd.heap.size, 0, none⟩) 0 0) [] :=
  ⟨OwnAs.empty Wd _ (Nat.le_refl _), hb.up (al1 _ _), hx.alloc _, by rw [World.size_alloc]; omega, hx.lt⟩
theorem Reg.startC {w Wd : World} {x : Am} (o : Obj) (hb : Below w.heap.size w Wd) (hx : BoxA Wd w.heap.size x) : Reg w Wd x ((Wd.alloc o).alloc (.cells #[] 27)) (.slice (some ⟨Wd.heap.size + 1, 0, none⟩) 0 0) [] := by
  rw [show Wd.heap.size + 1 = (Wd.alloc o).heap.size from (World.size_alloc _ _).symm]
  exact ⟨OwnAs.empty (Wd.alloc o) _ (by rw [World.size_alloc]; omega), (hb.up (al1 _ _)).up (al1 _ _), (hx.alloc _).alloc _, by rw [World.size_alloc, World.size_alloc]; omega, hx.lt⟩
theorem BoxA.new1 (W : World) (o : Obj) (x : Am) : BoxA ((W.alloc o).alloc (.cells #[.int .i64 x.no, .int .i64 x.at_, .int .i64 x.known, .int .i64 x.key, .int .i64 x.value, .bool x.gone] 27)) (W.heap.size + 1) x := by
  rw [show W.heap.size + 1 = (W.alloc o).heap.size from (World.size_alloc _ _).symm]; exact BoxA.new _ x
theorem Reg.alloc {w Wd X : World} {x : Am} {v : Value} {xs : List Am} (h : Reg w Wd x X v xs) (o : Obj) : Reg w Wd x (X.alloc o) v xs :=
  ⟨OwnAs.alloc h.own o, h.below.up (al1 _ _), h.box.alloc _, by rw [World.size_alloc]; have := h.sz; omega, h.lt⟩
theorem Reg.app {w Wd X X1 : World} {x : Am} {v v1 : Value} {xs ys : List Am} (h : Reg w Wd x X v xs) (ho : OwnAs X1 Wd.heap.size v1 ys) (hg : X.grownBy X1 v.ownBlock) : Reg w Wd x X1 v1 ys :=
  ⟨ho, h.below.grown hg (Nat.le_trans (Nat.le_of_lt h.lt) h.sz) (fun g hg => by have := (OwnAs.at h.own g hg).1; have := h.lt; omega), h.box.grown hg (fun e => by have := (OwnAs.at h.own _ e.symm).1; have := h.lt; omega), Nat.le_trans h.sz hg.size, h.lt⟩
theorem BoxA.ten {X : World} {B : Nat} {x : Am} (h : BoxA X B x) : X.cell? ⟨B, 0, none⟩ = some (.int .i64 x.no) ∧ X.cell? ⟨B, 1, none⟩ = some (.int .i64 x.at_) ∧ X.cell? ⟨B, 2, none⟩ = some (.int .i64 x.known) ∧ X.cell? ⟨B, 3, none⟩ = some (.int .i64 x.key) ∧ X.cell? ⟨B, 4, none⟩ = some (.int .i64 x.value) ∧ X.cell? ⟨B, 5, none⟩ = some (.bool x.gone) := ⟨h.c0, h.c1, h.c2, h.c3, h.c4, h.c5⟩
theorem over_drewN {c : Code} {Q : Exit → Act → World → Prop} {a : Act} {w2 : World} {m : Nat} (h : ∀ W0, (∃ m, W0 = w2.drewN m) → c.wp Try.prog Q a W0) : c.wp Try.prog Q a (w2.drewN m) := h _ ⟨m, rfl⟩
end Go.Proofs.Ytcifhigeieoogaa

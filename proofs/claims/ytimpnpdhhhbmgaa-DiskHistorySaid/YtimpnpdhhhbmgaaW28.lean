/- Scripts of steps of the call's own: an append of one step. -/
import Derived.Test.YtimpnpdhhhbmgaaOwn
import Derived.Test.YtimpnpdhhhbmgaaActs
namespace Go.Proofs.Ytimpnpdhhhbmgaa
open Go.RowKit
set_option linter.unusedVariables false
set_option linter.unusedSimpArgs false

theorem info46 : (Try.prog.info? 46).map (fun i => (i.zero, i.size, i.bytes)) = some (some (.agg #[.bool false, .int .u8 0, .int .u8 0]), 3, 3) := by kernel_rfl
def OwnAc (W : World) (base : Nat) (v : Value) (x : List Ac) : Prop := W.ownsRow base 46 3 v x.length (rowA x)
theorem rowA_append (x y : List Ac) : rowA (x ++ y) = rowA x ++ rowA y := by
  induction x with
  | nil => rfl
  | cons p r ih => simp only [List.cons_append, rowA, ih]
theorem OwnAc.is {W : World} {base : Nat} {v : Value} {x : List Ac} (h : OwnAc W base v x) : IsActs W v x := by
  obtain ⟨A, c, e, h1, h2, _⟩ := own_rowAt h
  exact ⟨A, c, e, h1, h2⟩
theorem OwnAc.empty (w : World) (base : Nat) (hb : base ≤ w.heap.size) : OwnAc (w.alloc (.cells #[] 46)) base (.slice (some ⟨w.heap.size, 0, none⟩) 0 0) [] :=
  World.ownsRow_made w #[] 0 hb (by unfold maxLen; omega) rfl
theorem OwnAc.upb {W W' : World} {base : Nat} {v : Value} {xs : List Ac} (h : OwnAc W base v xs) (hb : Below W.heap.size W W') : OwnAc W' base v xs := row_below h hb
theorem OwnAc.at {W : World} {base : Nat} {v : Value} {xs : List Ac} (h : OwnAc W base v xs) : ∀ g, v.ownBlock = some g → base ≤ g ∧ g < W.heap.size := World.ownsRow.lt h
theorem OwnAc.slice {W : World} {base : Nat} {v : Value} {xs : List Ac} (h : OwnAc W base v xs) : ∃ A c, v = .slice A xs.length c := own_slice h
theorem rowA_one (p : Ac) : ∀ u ∈ rowA [p], u.oneCell' = true := by
  intro u hu
  simp only [rowA, List.mem_cons, List.not_mem_nil, or_false] at hu
  rcases hu with rfl | rfl | rfl <;> rfl
theorem wpList_pushA {W : World} {ops : Array Oper} {rest : List Oper} {o : Oper} {a : Act} {Q : Exit → Act → World → Prop} (hgd : o.guard = none) (s x : Operand)
    (ho : o.op = .call { callee := .builtin .append, args := #[s, x], argTypes := #[43, 43] })
    (base : Nat) (v : Value) (xs : List Ac) (hs : a.eval s = v) (hown : OwnAc W base v xs) (p : Ac) (H : Nat) (hH : W.heap.size = H) (hx : a.eval x = .slice (some ⟨H, 0, none⟩) 1 1)
    (hlen : xs.length ≤ 1000000) (hb : base ≤ W.heap.size)
    (hk : ∀ v' w', OwnAc w' base v' (xs ++ [p]) → W.grownBy w' v.ownBlock → (v'.ownBlock = v.ownBlock ∨ v'.ownBlock = some (W.heap.size + 1)) → wpList Try.prog ops Q rest (a.put o.dst v') w') :
    wpList Try.prog ops Q (o :: rest) a (W.alloc (.cells #[.bool p.s, .int .u8 (p.a.toNat : Int), .int .u8 (p.b.toNat : Int)] 46)) := by
  subst hH
  have hr : RowAt (W.alloc (.cells #[.bool p.s, .int .u8 (p.a.toNat : Int), .int .u8 (p.b.toNat : Int)] 46)) (some ⟨W.heap.size, 0, none⟩) (rowA [p]) := fun _ => by
    refine ⟨W.heap.size, 0, rfl, by simp, fun i hi => ?_⟩
    rw [World.cell?_alloc_new, Nat.zero_add, ← List.getElem?_eq_getElem hi]
    simp [rowA]
  have h1 := app_run (W.alloc (.cells #[.bool p.s, .int .u8 (p.a.toNat : Int), .int .u8 (p.b.toNat : Int)] 46)) base 43 o.type 46 _ 3 3 Try.underlying43 info46 rfl (by decide) v xs.length (rowA xs) (World.ownsRow.alloc hown _) (some ⟨W.heap.size, 0, none⟩) 1 1 (rowA [p]) (by rw [rowA_len]; rfl) hr (rowA_one p) (by unfold maxLen; omega) (by omega) (by simp; omega)
  obtain ⟨v', w', k1, k2, k3, k4⟩ := h1
  refine wpList_app (R := fun v2 X2 => v2 = v' ∧ X2 = w') hgd s x 43 v (.slice (some ⟨W.heap.size, 0, none⟩) 1 1) ho hs hx ⟨v', w', k1, rfl, rfl⟩ ?_
  rintro v2 X2 ⟨rfl, rfl⟩
  refine hk _ _ ?_ ((World.grownBy_alloc W _ v.ownBlock).trans k3) (by simpa using k4)
  unfold OwnAc
  rw [rowA_append, List.length_append]
  exact k2
end Go.Proofs.Ytimpnpdhhhbmgaa

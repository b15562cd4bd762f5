/- Rows of values that a call builds itself. -/
import Derived.Test.YtnnddmhimnekaaaW8
import Derived.Deep.AppendLies
namespace Go.Proofs.Ytnnddmhimnekaaa
open Go.RowKit
set_option linter.unusedVariables false
set_option linter.unusedSimpArgs false

theorem infoVal : (Try.prog.info? 24).map (fun i => (i.zero, i.size, i.bytes)) = some (some (.agg #[.int .i64 0, .int .i64 0, .string ByteArray.empty, .slice none 0 0]), 4, 56) := by kernel_rfl

/-- blocks from base on, but for one -/
def But (base : Nat) (o : Option Nat) : Nat → Prop := fun b => base ≤ b ∧ some b ≠ o

def OwnVs (X : World) (base : Nat) (v : Value) (l : List Cd.Vl) : Prop :=
  ∃ es : List E4, X.ownsRow base 24 4 v es.length (es.flatMap encE) ∧ es.length = l.length ∧ ∀ i (h : i < es.length) (h' : i < l.length), IsV (But base v.ownBlock) X (agE es[i]) l[i]

theorem OwnVs.nil (X : World) (base : Nat) : OwnVs X base (.slice none 0 0) [] := ⟨[], World.ownsRow_nil X base _ 4, rfl, fun i h => by simp at h⟩
theorem OwnVs.slice {X : World} {base : Nat} {v : Value} {l : List Cd.Vl} (h : OwnVs X base v l) : ∃ A c, v = .slice A l.length c := by
  obtain ⟨es, h1, h2, _⟩ := h
  rcases h1.2 with ⟨rfl, h0⟩ | ⟨g, cap, cur, rfl, _⟩
  · exact ⟨none, 0, by rw [← h2, h0]⟩
  · exact ⟨_, cap, by rw [← h2]⟩
theorem OwnVs.lt {X : World} {base : Nat} {v : Value} {l : List Cd.Vl} (h : OwnVs X base v l) : ∀ g, v.ownBlock = some g → base ≤ g ∧ g < X.heap.size := by
  obtain ⟨es, h1, h2, _⟩ := h
  exact World.ownsRow.lt h1
theorem OwnVs.vals {X : World} {base : Nat} {v : Value} {l : List Cd.Vl} (h : OwnVs X base v l) : IsVs (fun b => base ≤ b) X v l := by
  obtain ⟨es, h1, h2, h3⟩ := h
  have h3' : ∀ i (h : i < es.length) (h' : i < l.length), IsV (fun b => base ≤ b) X (agE es[i]) l[i] := fun i a b => (h3 i a b).mono (fun _ _ h => h.1)
  rcases h1.2 with ⟨rfl, h0⟩ | ⟨g, cap, cur, rfl, hb, hg, _, _, hcs, ht⟩
  · exact ⟨none, 0, es, by rw [← h2, h0], h2, fun hn => by have := flatE_len es; rw [h0] at this; exact absurd (List.eq_nil_of_length_eq_zero this) hn, h3'⟩
  · refine ⟨some ⟨g, 0, none⟩, cap, es, by rw [h2], h2, fun hn => ⟨g, 0, rfl, (Array.getElem?_eq_some_iff.1 hg).1, hb, fun i hi => ?_⟩, h3'⟩
    rw [Nat.zero_add, cell_of_row X g i cur 24 (0, 0) hg]
    have e : (es.flatMap encE)[i]? = some (es.flatMap encE)[i] := List.getElem?_eq_getElem hi
    rw [← e]
    rw [← ht]
    have hi' : i < es.length * 4 := by rw [flatE_len] at hi; omega
    rw [List.getElem?_take, if_pos hi']
    simp
theorem OwnVs.kept {X X' : World} {base : Nat} {v : Value} {l : List Cd.Vl} (h : OwnVs X base v l) {r : Option Nat} (hg : X.grownBy X' r) (hr : ∀ k, r = some k → k < base) : OwnVs X' base v l := by
  obtain ⟨es, h1, h2, h3⟩ := h
  refine ⟨es, World.ownsRow.kept h1 hg ?_, h2, fun i a b => (h3 i a b).keep hg.size (fun q hq hlt => hg.block q hlt (fun e => by have := hr q e.symm; have := hq.1; omega))⟩
  cases ho : v.ownBlock with
  | none => exact .inl rfl
  | some g =>
    refine .inr (fun e => ?_)
    have := (World.ownsRow.lt h1 g ho).1
    have := hr g e.symm
    omega
theorem OwnVs.under {X X' : World} {base : Nat} {v : Value} {l : List Cd.Vl} (h : OwnVs X base v l) (hb : Below X.heap.size X X') : OwnVs X' base v l := by
  obtain ⟨es, h1, h2, h3⟩ := h
  exact ⟨es, row_below h1 hb, h2, fun i a b => (h3 i a b).under hb⟩
theorem OwnVs.alloc {X : World} {base : Nat} {v : Value} {l : List Cd.Vl} (h : OwnVs X base v l) (o : Obj) : OwnVs (X.alloc o) base v l := h.under ((Below.refl _ X).alloc (Nat.le_refl _) o)
theorem OwnVs.drew {X : World} {base : Nat} {v : Value} {l : List Cd.Vl} (h : OwnVs X base v l) : OwnVs X.drew base v l := h.under (below_drew (Below.refl _ X))

theorem agE_one {P : Nat → Prop} {X : World} {e : E4} {x : Cd.Vl} (h : IsV P X (agE e) x) : ∀ u ∈ encE e, u.oneCell' = true := by
  obtain ⟨A, c, e1, _⟩ := h.opens
  unfold agE at e1
  obtain ⟨a, b, c', d⟩ := e
  simp only [Value.agg.injEq, Array.mk.injEq, List.cons.injEq, and_true] at e1
  obtain ⟨rfl, rfl, rfl, rfl⟩ := e1
  intro u hu
  simp only [encE, List.mem_cons, List.not_mem_nil, or_false] at hu
  rcases hu with rfl | rfl | rfl | rfl <;> rfl

/-- a value appended to a row of values -/
structure PushV (X X' : World) (base : Nat) (v v' : Value) (l : List Cd.Vl) : Prop where
  own : OwnVs X' base v' l
  grown : X.grownBy X' v.ownBlock

theorem step_pushV {X : World} {ops : Array Oper} {o : Oper} {a : Act} {K : Act → World → Prop} {Q : Exit → Act → World → Prop} {E : Prop} (hgd : o.guard = none) (s x : Operand)
    (ho : o.op = .call { callee := .builtin .append, args := #[s, x], argTypes := #[22, 22] })
    (base : Nat) (v : Value) (l : List Cd.Vl) (hO : OwnVs X base v l) (e : E4) (y : Cd.Vl) (hy : IsV (But base v.ownBlock) X (agE e) y)
    (ad : Nat) (hs : a.eval s = v) (hx : a.eval x = .slice (some ⟨ad, 0, none⟩) 1 1) (hc : Four X ad e.1 e.2.1 e.2.2.1 e.2.2.2) (hlen : l.length ≤ 1000000) (hbs : base ≤ X.heap.size)
    (h : ∀ v' X', PushV X X' base v v' (l ++ [y]) → K (a.put o.dst v') X') :
    if Region.wanted o (yielded ops a.tmps) = true then Oper.wp Try.prog o a X K Q else E := by
  obtain ⟨i0, hi, hz0, hz1, hz2⟩ := info_parts infoVal
  have hO' := hO
  obtain ⟨es, h1, h2, h3⟩ := hO
  refine step_append_lies _ hgd s x _ ho base 24 i0 _ 4 56 Try.underlying22 hi hz0 hz1 hz2 rfl (by decide) v es.length (es.flatMap encE) hs h1
    ⟨ad, 0, none⟩ 1 1 (encE e) hx rfl (World.news_of_block hc) (agE_one hy) (by omega) (by unfold maxLen; omega) (by omega) hbs X.heap.size rfl ?_
  intro g cap X' k1 k2 k3 _
  refine h _ X' ⟨⟨es ++ [e], ?_, by simp [h2], fun i h4 h5 => ?_⟩, k2⟩
  · simpa using k1
  · have key : ∀ (z : Value) (q : Cd.Vl), IsV (But base v.ownBlock) X z q → IsV (But base (Value.ownBlock (.slice (some ⟨g, 0, none⟩) (es.length + 1) cap))) X' z q := fun z q hz => by
      have hz1 : IsV (fun b => But base v.ownBlock b ∧ b < X.heap.size) X z q := hz.mono (fun b hb hp => ⟨hp, hb⟩)
      refine (hz1.keep k2.size (fun b hb hlt => k2.block b hlt hb.1.2)).mono (fun b _ hb => ⟨hb.1.1, fun eb => ?_⟩)
      rcases k3 with k3 | k3
      · exact hb.1.2 (by rw [k3]; exact eb)
      · have : b = g := by simpa [Value.ownBlock] using eb
        have := hb.2
        omega
    by_cases hlt : i < es.length
    · rw [List.getElem_append_left hlt, List.getElem_append_left (by omega)]
      exact key _ _ (h3 i hlt (by omega))
    · have e2 : i = es.length := by simp at h4; omega
      subst e2
      have e3 : (l ++ [y])[es.length]'h5 = y := by simp [h2]
      have e4 : (es ++ [e])[es.length]'h4 = e := by simp
      rw [e3, e4]
      exact key _ _ hy

end Go.Proofs.Ytnnddmhimnekaaa

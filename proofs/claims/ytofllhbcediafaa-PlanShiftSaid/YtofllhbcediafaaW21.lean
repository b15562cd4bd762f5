/- Words and dues that a call builds itself: rows of slices of the call's own. -/
import Derived.Test.YtofllhbcediafaaL4
import Derived.Test.YtofllhbcediafaaPlain9
namespace Go.Proofs.Ytofllhbcediafaa
open Go.RowKit
set_option linter.unusedVariables false
set_option linter.unusedSimpArgs false

theorem infoRow : (Try.prog.info? 37).map (fun i => (i.zero, i.size, i.bytes)) = some (some (.slice none 0 0), 1, 24) := by kernel_rfl

theorem owns_base {W : World} {base base' : Nat} {e : TypeId} {size n : Nat} {v : Value} {xs : List Value} (h : W.ownsRow base e size v n xs) (hb : base' ≤ base) : W.ownsRow base' e size v n xs := by
  refine ⟨h.1, ?_⟩
  rcases h.2 with h2 | ⟨g, cap, cur, hv, hg, r⟩
  · exact .inl h2
  · exact .inr ⟨g, cap, cur, hv, by omega, r⟩
/-- rows of different element types lie in different blocks -/
theorem owns_ne {W : World} {b1 b2 : Nat} {e1 e2 : TypeId} {s1 s2 n1 n2 : Nat} {v1 v2 : Value} {x1 x2 : List Value} (h1 : W.ownsRow b1 e1 s1 v1 n1 x1) (h2 : W.ownsRow b2 e2 s2 v2 n2 x2) (hne : e1 ≠ e2) : v1.ownBlock = none ∨ v1.ownBlock ≠ v2.ownBlock := by
  rcases h1.2 with ⟨rfl, _⟩ | ⟨g, cap, cur, rfl, _, hg, _⟩
  · exact .inl rfl
  · refine .inr (fun e => ?_)
    rcases h2.2 with ⟨rfl, _⟩ | ⟨g', cap', cur', rfl, _, hg', _⟩
    · simp [Value.ownBlock] at e
    · have : g = g' := by simpa [Value.ownBlock] using e
      subst this
      rw [hg] at hg'
      injection hg' with hg'
      injection hg' with _ ht
      exact hne ht
theorem box_ne {W : World} {b : Nat} {e : TypeId} {s n : Nat} {v u : Value} {x : List Value} {h : Nat} {t : TypeId} (h1 : W.ownsRow b e s v n x) (h2 : Boxed W h t u) (hne : e ≠ t) : some h ≠ v.ownBlock := by
  rcases h1.2 with ⟨rfl, _⟩ | ⟨g, cap, cur, rfl, _, hg, _⟩
  · simp [Value.ownBlock]
  · intro e'
    have : h = g := by simpa [Value.ownBlock] using e'
    subst this
    have h3 : W.heap[h]? = some (.cells #[u] t (0, 0)) := h2
    rw [hg] at h3
    injection h3 with h3
    injection h3 with _ ht
    exact hne ht

/-- what is built so far: words and dues -/
structure Bld (w X : World) (mv du : Value) (vs : List Value) (lx : List (List Pl.Life)) (dx : List Int) : Prop where
  mo : X.ownsRow w.heap.size 37 1 mv vs.length vs
  le : vs.length = lx.length
  el : ∀ i (h : i < vs.length) (h' : i < lx.length), OwnLives X w.heap.size vs[i] lx[i]
  du : OwnInts X w.heap.size du dx
  be : Below w.heap.size w X

theorem Bld.below {w X X' : World} {mv du : Value} {vs : List Value} {lx : List (List Pl.Life)} {dx : List Int} (h : Bld w X mv du vs lx dx) (hb : Below X.heap.size X X') : Bld w X' mv du vs lx dx :=
  ⟨row_below h.mo hb, h.le, fun i h1 h2 => row_below (h.el i h1 h2) hb, row_below h.du hb, h.be.up hb⟩
theorem Bld.alloc {w X : World} {mv du : Value} {vs : List Value} {lx : List (List Pl.Life)} {dx : List Int} (h : Bld w X mv du vs lx dx) (o : Obj) : Bld w (X.alloc o) mv du vs lx dx := h.below (al1 X o)
theorem Bld.drewN {w X : World} {mv du : Value} {vs : List Value} {lx : List (List Pl.Life)} {dx : List Int} (h : Bld w X mv du vs lx dx) (n : Nat) : Bld w (X.drewN n) mv du vs lx dx := h.below (below_drewN (Below.refl _ _) n)
theorem Bld.start (w : World) : Bld w w (.slice none 0 0) (.slice none 0 0) [] [] [] :=
  ⟨World.ownsRow_nil w _ _ 1, rfl, fun i h => by simp at h, own_none w _, Below.refl _ _⟩
theorem Bld.words {w X : World} {mv du : Value} {vs : List Value} {lx : List (List Pl.Life)} {dx : List Int} (h : Bld w X mv du vs lx dx) : IsWords X mv lx := by
  rcases h.mo.2 with ⟨rfl, h0⟩ | ⟨g, cap, cur, hv, _, hg, _, _, _, ht⟩
  · have : lx = [] := List.eq_nil_of_length_eq_zero (by rw [← h.le]; exact h0)
    subst this
    exact IsWords.nil
  · refine ⟨some ⟨g, 0, none⟩, cap, vs, by rw [hv, h.le], h.le, fun _ => ⟨g, 0, rfl, (Array.getElem?_eq_some_iff.1 hg).1, fun i hi => ?_⟩, fun i h1 h2 => (h.el i h2 h1).lives⟩
    have hm := h.mo
    rw [hv] at hm
    have := World.ownsRow.cellAt hm i (by omega)
    rw [Nat.zero_add, this, List.getElem?_eq_getElem hi]

theorem step_pushW {w X : World} {ops : Array Oper} {o : Oper} {a : Act} {K : Act → World → Prop} {Q : Exit → Act → World → Prop} {E : Prop} (hgd : o.guard = none) (s x : Operand)
    (ho : o.op = .call { callee := .builtin .append, args := #[s, x], argTypes := #[22, 22] })
    (mv du : Value) (vs : List Value) (lx : List (List Pl.Life)) (dx : List Int) (hB : Bld w X mv du vs lx dx) (own : Value) (y : List Pl.Life) (hown : OwnLives X w.heap.size own y)
    (ad : Nat) (hs : a.eval s = mv) (hx : a.eval x = .slice (some ⟨ad, 0, none⟩) 1 1) (hc : Boxed X ad 37 own) (hlen : vs.length ≤ 1000000)
    (h : ∀ v' X', Bld w X' v' du (vs ++ [own]) (lx ++ [y]) dx → (∀ h u, Boxed X h 3 u → Boxed X' h 3 u) → K (a.put o.dst v') X') :
    if Region.wanted o (yielded ops a.tmps) = true then Oper.wp Try.prog o a X K Q else E := by
  obtain ⟨i0, hi, hz0, hz1, hz2⟩ := info_parts infoRow
  have hcell := hc.cell
  refine step_append_lies _ hgd s x _ ho w.heap.size 37 i0 (.slice none 0 0) 1 24 Try.underlying22 hi hz0 hz1 hz2 rfl (by decide) mv vs.length vs hs hB.mo
    ⟨ad, 0, none⟩ 1 1 [own] hx rfl (fun j u hu => ?_) (fun u hu => ?_) (by omega) (by unfold maxLen; omega) (by omega) hB.be.size X.heap.size rfl ?_
  · cases j with
    | zero => simp at hu; subst hu; simpa [Addr.add] using hcell
    | succ j => simp at hu
  · simp at hu
    subst hu
    obtain ⟨A, c, rfl⟩ := own_slice hown
    rfl
  · intro g cap X' h1 h2 h3 _
    refine h _ X' ⟨by simpa using h1, by simp [hB.le], fun i h4 h5 => ?_, World.ownsRow.kept hB.du h2 (owns_ne hB.du hB.mo (by decide)), hB.be.grown h2 hB.be.size (fun g hg => (World.ownsRow.lt hB.mo g hg).1)⟩ (fun b u hb => ?_)
    · by_cases e : i < vs.length
      · rw [List.getElem_append_left e, List.getElem_append_left (by rw [← hB.le]; exact e)]
        exact World.ownsRow.kept (hB.el i e (by rw [← hB.le]; exact e)) h2 (owns_ne (hB.el i e (by rw [← hB.le]; exact e)) hB.mo (by decide))
      · have e2 : i = vs.length := by simp at h4; omega
        subst e2
        have e3 : (lx ++ [y])[vs.length]'h5 = y := by simp [hB.le]
        have e4 : (vs ++ [own])[vs.length]'h4 = own := by simp
        rw [e3, e4]
        exact World.ownsRow.kept hown h2 (owns_ne hown hB.mo (by decide))
    · exact (h2.block b hb.lt (box_ne hB.mo hb (by decide))).trans hb

theorem step_pushD {w X : World} {ops : Array Oper} {o : Oper} {a : Act} {K : Act → World → Prop} {Q : Exit → Act → World → Prop} {E : Prop} (hgd : o.guard = none) (s x : Operand)
    (ho : o.op = .call { callee := .builtin .append, args := #[s, x], argTypes := #[23, 23] })
    (mv du : Value) (vs : List Value) (lx : List (List Pl.Life)) (dx : List Int) (hB : Bld w X mv du vs lx dx) (y : Int)
    (ad : Nat) (hs : a.eval s = du) (hx : a.eval x = .slice (some ⟨ad, 0, none⟩) 1 1) (hc : Boxed X ad 3 (.int .i64 y)) (hlen : dx.length ≤ 1000000)
    (h : ∀ v' X', Bld w X' mv v' vs lx (dx ++ [y]) → K (a.put o.dst v') X') :
    if Region.wanted o (yielded ops a.tmps) = true then Oper.wp Try.prog o a X K Q else E := by
  obtain ⟨i0, hi, hz0, hz1, hz2⟩ := info_parts infoInt
  have hcell := hc.cell
  refine step_append_lies _ hgd s x _ ho w.heap.size 3 i0 (.int .i64 0) 1 8 Try.underlying23 hi hz0 hz1 hz2 rfl (by decide) du dx.length (dx.map (Value.int .i64)) hs hB.du
    ⟨ad, 0, none⟩ 1 1 [.int .i64 y] hx rfl (fun j u hu => ?_) (by simp [Value.oneCell']) (by omega) (by unfold maxLen; omega) (by omega) hB.be.size X.heap.size rfl ?_
  · cases j with
    | zero => simp at hu; subst hu; simpa [Addr.add] using hcell
    | succ j => simp at hu
  · intro g cap X' h1 h2 h3 _
    exact h _ X' ⟨World.ownsRow.kept hB.mo h2 (owns_ne hB.mo hB.du (by decide)), hB.le, fun i h4 h5 => World.ownsRow.kept (hB.el i h4 h5) h2 (owns_ne (hB.el i h4 h5) hB.du (by decide)), own_snoc h1, hB.be.grown h2 hB.be.size (fun g hg => (World.ownsRow.lt hB.du g hg).1)⟩

end Go.Proofs.Ytofllhbcediafaa

/- Values of the codec in memory. -/
import Derived.Test.YtnnddmhimnekaaaBase
import Derived.Test.YtnnddmhimnekaaaPlain
namespace Go.Proofs.Ytnnddmhimnekaaa
open Go.RowKit
set_option linter.unusedVariables false
set_option linter.unusedSimpArgs false

abbrev E4 := Value × Value × Value × Value
def encE (e : E4) : List Value := [e.1, e.2.1, e.2.2.1, e.2.2.2]
def agE (e : E4) : Value := .agg #[e.1, e.2.1, e.2.2.1, e.2.2.2]

/-- cells from A on, in a block of w that P allows -/
def RowP (P : Nat → Prop) (w : World) (A : Option Addr) (cs : List Value) : Prop :=
  cs ≠ [] → ∃ b off, A = some ⟨b, off, none⟩ ∧ b < w.heap.size ∧ P b ∧ ∀ i (h : i < cs.length), w.cell? ⟨b, off + i, none⟩ = some cs[i]

/-- the value reads as v, through blocks that P allows -/
inductive IsV (P : Nat → Prop) (w : World) : Value → Cd.Vl → Prop
  | mk (k n : Int) (s : ByteArray) (l : List Cd.Vl) (A : Option Addr) (c : Nat) (es : List E4) (hl : es.length = l.length) (hr : RowP P w A (es.flatMap encE))
      (he : ∀ i (h : i < es.length) (h' : i < l.length), IsV P w (agE es[i]) l[i]) : IsV P w (.agg #[.int .i64 k, .int .i64 n, .string s, .slice A l.length c]) (.mk k n s l)
/-- the slice reads as a list of values -/
def IsVs (P : Nat → Prop) (w : World) (v : Value) (l : List Cd.Vl) : Prop :=
  ∃ (A : Option Addr) (c : Nat) (es : List E4), v = .slice A l.length c ∧ es.length = l.length ∧ RowP P w A (es.flatMap encE) ∧ ∀ i (h : i < es.length) (h' : i < l.length), IsV P w (agE es[i]) l[i]

theorem RowP.keep {P : Nat → Prop} {w w' : World} {A : Option Addr} {cs : List Value} (h : RowP P w A cs) (hs : w.heap.size ≤ w'.heap.size) (hk : ∀ b, P b → b < w.heap.size → w'.heap[b]? = w.heap[b]?) : RowP P w' A cs := fun hn => by
  obtain ⟨b, off, e, hb, hp, hc⟩ := h hn
  exact ⟨b, off, e, by omega, hp, fun i hi => (World.cell?_of_block (w := w) (hk b hp hb)).trans (hc i hi)⟩
theorem RowP.mono {P P' : Nat → Prop} {w : World} {A : Option Addr} {cs : List Value} (h : RowP P w A cs) (hp : ∀ b, b < w.heap.size → P b → P' b) : RowP P' w A cs := fun hn => by
  obtain ⟨b, off, e, hb, h1, hc⟩ := h hn
  exact ⟨b, off, e, hb, hp b hb h1, hc⟩
theorem IsV.keep {P : Nat → Prop} {w w' : World} {v : Value} {x : Cd.Vl} (h : IsV P w v x) (hs : w.heap.size ≤ w'.heap.size) (hk : ∀ b, P b → b < w.heap.size → w'.heap[b]? = w.heap[b]?) : IsV P w' v x := by
  induction h with
  | mk k n s l A c es hl hr he ih => exact .mk k n s l A c es hl (hr.keep hs hk) ih
theorem IsV.mono {P P' : Nat → Prop} {w : World} {v : Value} {x : Cd.Vl} (h : IsV P w v x) (hp : ∀ b, b < w.heap.size → P b → P' b) : IsV P' w v x := by
  induction h with
  | mk k n s l A c es hl hr he ih => exact .mk k n s l A c es hl (hr.mono hp) ih
theorem IsVs.keep {P : Nat → Prop} {w w' : World} {v : Value} {l : List Cd.Vl} (h : IsVs P w v l) (hs : w.heap.size ≤ w'.heap.size) (hk : ∀ b, P b → b < w.heap.size → w'.heap[b]? = w.heap[b]?) : IsVs P w' v l := by
  obtain ⟨A, c, es, e, hl, hr, he⟩ := h
  exact ⟨A, c, es, e, hl, hr.keep hs hk, fun i h1 h2 => (he i h1 h2).keep hs hk⟩
theorem IsVs.mono {P P' : Nat → Prop} {w : World} {v : Value} {l : List Cd.Vl} (h : IsVs P w v l) (hp : ∀ b, b < w.heap.size → P b → P' b) : IsVs P' w v l := by
  obtain ⟨A, c, es, e, hl, hr, he⟩ := h
  exact ⟨A, c, es, e, hl, hr.mono hp, fun i h1 h2 => (he i h1 h2).mono hp⟩
def Any : Nat → Prop := fun _ => True
theorem IsV.under {P : Nat → Prop} {w w' : World} {v : Value} {x : Cd.Vl} (h : IsV P w v x) (hb : Below w.heap.size w w') : IsV P w' v x := h.keep hb.size (fun b _ hlt => hb.block b hlt)
theorem IsVs.under {P : Nat → Prop} {w w' : World} {v : Value} {l : List Cd.Vl} (h : IsVs P w v l) (hb : Below w.heap.size w w') : IsVs P w' v l := h.keep hb.size (fun b _ hlt => hb.block b hlt)

theorem flatE_len (es : List E4) : (es.flatMap encE).length = 4 * es.length := by
  induction es with
  | nil => rfl
  | cons a l ih => simp only [List.flatMap_cons, List.length_append, ih, encE, List.length_cons, List.length_nil]; omega
theorem flatE_at (es : List E4) (k : Nat) (h : k < es.length) : (es.flatMap encE)[k * 4]? = some es[k].1 ∧ (es.flatMap encE)[k * 4 + 1]? = some es[k].2.1 ∧ (es.flatMap encE)[k * 4 + 2]? = some es[k].2.2.1 ∧ (es.flatMap encE)[k * 4 + 3]? = some es[k].2.2.2 := by
  induction es generalizing k with
  | nil => simp at h
  | cons a l ih =>
    cases k with
    | zero => simp [List.flatMap_cons, encE]
    | succ k =>
      have := ih k (by simpa using h)
      simp only [List.flatMap_cons, encE, List.cons_append, List.nil_append, List.getElem_cons_succ]
      rw [show (k + 1) * 4 = k * 4 + 1 + 1 + 1 + 1 by omega]
      simpa using this
theorem rowE_at {P : Nat → Prop} {w : World} {A : Option Addr} {es : List E4} (h : RowP P w A (es.flatMap encE)) {k : Nat} (hk : k < es.length) :
    ∃ b off, A = some ⟨b, off, none⟩ ∧ b < w.heap.size ∧ P b ∧ w.cell? ⟨b, off + k * 4, none⟩ = some es[k].1 ∧ w.cell? ⟨b, off + k * 4 + 1, none⟩ = some es[k].2.1 ∧ w.cell? ⟨b, off + k * 4 + 1 + 1, none⟩ = some es[k].2.2.1 ∧ w.cell? ⟨b, off + k * 4 + 1 + 1 + 1, none⟩ = some es[k].2.2.2 := by
  have hl := flatE_len es
  obtain ⟨h1, h2, h3, h4⟩ := flatE_at es k hk
  obtain ⟨b, off, e, hb, hp, hc⟩ := h (by intro h0; rw [h0] at hl; simp at hl; omega)
  have key : ∀ j (hj : j < (es.flatMap encE).length) (u : Value), (es.flatMap encE)[j]? = some u → w.cell? ⟨b, off + j, none⟩ = some u := fun j hj u hu => by
    rw [hc j hj, ← List.getElem?_eq_getElem, hu]
  refine ⟨b, off, e, hb, hp, key _ (by omega) _ h1, ?_, ?_, ?_⟩
  · exact key (k * 4 + 1) (by omega) _ h2
  · exact key (k * 4 + 2) (by omega) _ h3
  · exact key (k * 4 + 3) (by omega) _ h4

/-- an element, its fields laid open -/
theorem isVs_at {P : Nat → Prop} {w : World} {A : Option Addr} {n c : Nat} {l : List Cd.Vl} (h : IsVs P w (.slice A n c) l) {k : Nat} (hk : k < l.length) :
    ∃ b off A' c', A = some ⟨b, off, none⟩ ∧ b < w.heap.size ∧ P b ∧ w.cell? ⟨b, off + k * 4, none⟩ = some (.int .i64 l[k].kind) ∧ w.cell? ⟨b, off + k * 4 + 1, none⟩ = some (.int .i64 l[k].num) ∧
      w.cell? ⟨b, off + k * 4 + 1 + 1, none⟩ = some (.string l[k].str) ∧ w.cell? ⟨b, off + k * 4 + 1 + 1 + 1, none⟩ = some (.slice A' l[k].elems.length c') ∧
      Hid (IsV P w (.agg #[.int .i64 l[k].kind, .int .i64 l[k].num, .string l[k].str, .slice A' l[k].elems.length c']) l[k]) := by
  obtain ⟨A', c', es, e, hl, hr, he⟩ := h
  injection e with e1 e2 e3
  subst e1
  have hk' : k < es.length := by omega
  obtain ⟨b, off, rfl, hb, hp, h1, h2, h3, h4⟩ := rowE_at hr hk'
  have hv := he k hk' hk
  have hv' := hv
  unfold agE at hv'
  generalize hx : l[k] = x at *
  generalize hy : es[k] = y at *
  obtain ⟨y1, y2, y3, y4⟩ := y
  cases hv' with
  | mk k n s l2 A2 c2 es2 _ _ _ =>
    exact ⟨b, off, A2, c2, rfl, hb, hp, h1, h2, h3, h4, hv⟩

/-- a value opened -/
theorem IsV.opens {P : Nat → Prop} {w : World} {v : Value} {x : Cd.Vl} (h : IsV P w v x) :
    ∃ A c, v = .agg #[.int .i64 x.kind, .int .i64 x.num, .string x.str, .slice A x.elems.length c] ∧ IsVs P w (.slice A x.elems.length c) x.elems := by
  cases h with
  | mk k n s l A c es hl hr he => exact ⟨A, c, rfl, A, c, es, rfl, hl, hr, he⟩
theorem IsVs.nil {P : Nat → Prop} {w : World} : IsVs P w (.slice none 0 0) [] := ⟨none, 0, [], rfl, rfl, fun h => absurd rfl h, fun i h => by simp at h⟩
theorem IsV.of {P : Nat → Prop} {w : World} {k n : Int} {s : ByteArray} {l : List Cd.Vl} {v : Value} (h : IsVs P w v l) : IsV P w (.agg #[.int .i64 k, .int .i64 n, .string s, v]) (.mk k n s l) := by
  obtain ⟨A, c, es, rfl, hl, hr, he⟩ := h
  exact .mk k n s l A c es hl hr he

/-- bytes in memory -/
def encB (c : UInt8) : Value := .int .u8 (c.toNat : Int)
def IsBytes (w : World) (v : Value) (bs : List UInt8) : Prop := ∃ A c, v = .slice A bs.length c ∧ RowAt w A (bs.map encB)
theorem IsBytes.below {w w' : World} {v : Value} {xs : List UInt8} (h : IsBytes w v xs) (hb : Below w.heap.size w w') : IsBytes w' v xs := by
  obtain ⟨A, c, e, hr⟩ := h
  exact ⟨A, c, e, hr.below hb⟩
theorem IsBytes.nil {w : World} : IsBytes w (.slice none 0 0) [] := ⟨none, 0, rfl, RowAt.nil⟩
theorem bytes_at {w : World} {A : Option Addr} {n c : Nat} {xs : List UInt8} (h : IsBytes w (.slice A n c) xs) {k : Nat} (hk : k < xs.length) :
    ∃ b off, A = some ⟨b, off, none⟩ ∧ b < w.heap.size ∧ w.cell? ⟨b, off + k, none⟩ = some (.int .u8 (xs[k].toNat : Int)) := by
  obtain ⟨A', c', e, hr⟩ := h
  injection e with e1 e2 e3
  subst e1
  obtain ⟨b, off, e, hb, hc⟩ := hr.at_ (k := k) (by simpa using hk)
  exact ⟨b, off, e, hb, by simpa [encB] using hc⟩

end Go.Proofs.Ytnnddmhimnekaaa

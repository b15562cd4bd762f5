/- Words and their lives in memory. -/
import Derived.Test.YtofllhbcediafaaBase
import Derived.Test.YtofllhbcediafaaPlain
namespace Go.Proofs.Ytofllhbcediafaa
open Go.RowKit
set_option linter.unusedVariables false

def encL (p : Pl.Life) : List Value := [.int .i64 p.1, .int .i64 p.2]
def IsLives (w : World) (v : Value) (x : List Pl.Life) : Prop := ∃ A c, v = .slice A x.length c ∧ RowAt w A (x.flatMap encL)
def IsWords (w : World) (v : Value) (l : List (List Pl.Life)) : Prop :=
  ∃ A c vs, v = .slice A l.length c ∧ vs.length = l.length ∧ RowAt w A vs ∧ ∀ i (h : i < l.length) (h' : i < vs.length), IsLives w vs[i] l[i]

theorem IsLives.below {w w' : World} {v : Value} {x : List Pl.Life} (h : IsLives w v x) (hb : Below w.heap.size w w') : IsLives w' v x := by
  obtain ⟨A, c, e, hr⟩ := h
  exact ⟨A, c, e, hr.below hb⟩
theorem IsWords.below {w w' : World} {v : Value} {l : List (List Pl.Life)} (h : IsWords w v l) (hb : Below w.heap.size w w') : IsWords w' v l := by
  obtain ⟨A, c, vs, e, hl, hr, hv⟩ := h
  exact ⟨A, c, vs, e, hl, hr.below hb, fun i h1 h2 => (hv i h1 h2).below hb⟩
theorem IsLives.drewN {w : World} {v : Value} {x : List Pl.Life} (h : IsLives w v x) (n : Nat) : IsLives (w.drewN n) v x := h
theorem IsWords.drewN {w : World} {v : Value} {l : List (List Pl.Life)} (h : IsWords w v l) (n : Nat) : IsWords (w.drewN n) v l := h
theorem IsWords.nil {w : World} : IsWords w (.slice none 0 0) [] := ⟨none, 0, [], rfl, rfl, RowAt.nil, fun i h _ => by simp at h⟩
theorem IsLives.nil {w : World} : IsLives w (.slice none 0 0) [] := ⟨none, 0, rfl, RowAt.nil⟩

theorem flat_len (x : List Pl.Life) : (x.flatMap encL).length = 2 * x.length := by
  induction x with
  | nil => rfl
  | cons a l ih => simp only [List.flatMap_cons, List.length_append, ih, encL, List.length_cons, List.length_nil]; omega
theorem flat_at (x : List Pl.Life) (k : Nat) (h : k < x.length) : (x.flatMap encL)[k * 2]? = some (.int .i64 x[k].1) ∧ (x.flatMap encL)[k * 2 + 1]? = some (.int .i64 x[k].2) := by
  induction x generalizing k with
  | nil => simp at h
  | cons a l ih =>
    cases k with
    | zero => simp [List.flatMap_cons, encL]
    | succ k =>
      have := ih k (by simpa using h)
      simp only [List.flatMap_cons, encL, List.cons_append, List.nil_append, List.getElem_cons_succ]
      rw [show (k + 1) * 2 = k * 2 + 1 + 1 by omega]
      simpa using this
theorem lives_at {w : World} {A : Option Addr} {x : List Pl.Life} (h : RowAt w A (x.flatMap encL)) {k : Nat} (hk : k < x.length) :
    ∃ b off, A = some ⟨b, off, none⟩ ∧ b < w.heap.size ∧ w.cell? ⟨b, off + k * 2, none⟩ = some (.int .i64 x[k].1) ∧ w.cell? ⟨b, off + k * 2 + 1, none⟩ = some (.int .i64 x[k].2) := by
  have hl := flat_len x
  obtain ⟨h1, h2⟩ := flat_at x k hk
  obtain ⟨b, off, e, hb, hc⟩ := h (by intro h0; rw [h0] at hl; simp at hl; omega)
  refine ⟨b, off, e, hb, ?_, ?_⟩
  · have := hc (k * 2) (by omega)
    rw [this, ← List.getElem?_eq_getElem, h1]
  · have := hc (k * 2 + 1) (by omega)
    rw [← Nat.add_assoc] at this
    rw [this, ← List.getElem?_eq_getElem, h2]
theorem words_at {w : World} {A : Option Addr} {vs : List Value} {l : List (List Pl.Life)} (hl : vs.length = l.length) (hr : RowAt w A vs) (hv : ∀ i (h : i < l.length) (h' : i < vs.length), IsLives w vs[i] l[i]) {k : Nat} (hk : k < l.length) :
    ∃ b off A' c', A = some ⟨b, off, none⟩ ∧ b < w.heap.size ∧ w.cell? ⟨b, off + k, none⟩ = some (.slice A' l[k].length c') ∧ RowAt w A' (l[k].flatMap encL) := by
  obtain ⟨b, off, e, hb, hc⟩ := hr.at_ (k := k) (by omega)
  obtain ⟨A', c', ev, hr'⟩ := hv k hk (by omega)
  rw [ev] at hc
  exact ⟨b, off, A', c', e, hb, hc, hr'⟩

end Go.Proofs.Ytofllhbcediafaa

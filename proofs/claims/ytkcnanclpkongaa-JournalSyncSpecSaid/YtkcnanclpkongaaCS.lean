/- A script of crashes; and how rows are kept over a store into a disk's box. -/
import Derived.Test.YtkcnanclpkongaaOI
import Derived.Test.YtkcnanclpkongaaOpen2
namespace Go.Proofs.Ytkcnanclpkongaa
open Go.RowKit
set_option linter.unusedVariables false
set_option linter.unusedSimpArgs false
set_option maxRecDepth 20000

structure Cr where
  recs : List By
  stop : Bool
  left : Int
deriving Inhabited
def rowC : List Cr → List Value → List Value
  | p :: ps, v :: vs => v :: .bool p.stop :: .int .u8 p.left :: rowC ps vs
  | _, _ => []
theorem rowC_len : ∀ {ps : List Cr} {vs : List Value}, vs.length = ps.length → (rowC ps vs).length = ps.length * 3
  | [], _, _ => by simp [rowC]
  | p :: ps, [], h => by simp at h
  | p :: ps, v :: vs, h => by
    have := rowC_len (ps := ps) (vs := vs) (by simpa using h)
    simp only [rowC, List.length_cons, this]; omega
theorem rowC_at : ∀ {ps : List Cr} {vs : List Value} {k : Nat}, vs.length = ps.length → (hk : k < ps.length) → (hk' : k < vs.length) → (rowC ps vs)[k * 3]? = some vs[k] ∧ (rowC ps vs)[k * 3 + 1]? = some (.bool ps[k].stop) ∧ (rowC ps vs)[k * 3 + 2]? = some (.int .u8 ps[k].left)
  | [], _, _, _, hk, _ => by simp at hk
  | p :: ps, [], _, h, _, _ => by simp at h
  | p :: ps, v :: vs, 0, h, _, _ => by simp [rowC]
  | p :: ps, v :: vs, k + 1, h, hk, hk' => by
    have := rowC_at (ps := ps) (vs := vs) (k := k) (by simpa using h) (by simpa using hk) (by simpa using hk')
    rw [show (k + 1) * 3 = k * 3 + 1 + 1 + 1 by omega]
    simpa [rowC] using this
theorem rowC_get : ∀ {ps : List Cr} {vs : List Value}, vs.length = ps.length → ∀ i (h : i < (rowC ps vs).length), ∃ k, ∃ hk : k < ps.length, ∃ hk' : k < vs.length, (i = k * 3 ∧ (rowC ps vs)[i] = vs[k]) ∨ (i = k * 3 + 1 ∧ (rowC ps vs)[i] = .bool ps[k].stop) ∨ (i = k * 3 + 2 ∧ (rowC ps vs)[i] = .int .u8 ps[k].left) := by
  intro ps vs hl i h
  have hn := rowC_len hl
  have hk : i / 3 < ps.length := by omega
  have hk' : i / 3 < vs.length := by omega
  obtain ⟨h1, h2, h3⟩ := rowC_at hl hk hk'
  refine ⟨i / 3, hk, hk', ?_⟩
  have hm : i % 3 = 0 ∨ i % 3 = 1 ∨ i % 3 = 2 := by omega
  rcases hm with hm | hm | hm
  · refine .inl ⟨by omega, ?_⟩
    rw [show i / 3 * 3 = i by omega, List.getElem?_eq_getElem h] at h1
    injection h1
  · refine .inr (.inl ⟨by omega, ?_⟩)
    rw [show i / 3 * 3 + 1 = i by omega, List.getElem?_eq_getElem h] at h2
    injection h2
  · refine .inr (.inr ⟨by omega, ?_⟩)
    rw [show i / 3 * 3 + 2 = i by omega, List.getElem?_eq_getElem h] at h3
    injection h3
def IsCs (w : World) (v : Value) (ps : List Cr) : Prop := ∃ A c vs, v = .slice A ps.length c ∧ ps.length ≤ c ∧ vs.length = ps.length ∧ RowAt w A (rowC ps vs) ∧ ∀ i (h : i < vs.length) (h' : i < ps.length), IsBs w vs[i] ps[i].recs
theorem IsCs.upb {w w' : World} {v : Value} {ps : List Cr} (h : IsCs w v ps) (hb : Below w.heap.size w w') : IsCs w' v ps := by
  obtain ⟨A, c, vs, e, hc, hl, hr, hi⟩ := h
  exact ⟨A, c, vs, e, hc, hl, hr.below hb, fun i h h' => (hi i h h').upb hb⟩
theorem IsCs.nil {w : World} : IsCs w (.slice none 0 0) [] := ⟨none, 0, [], rfl, Nat.le_refl _, rfl, RowAt.nil, fun i h => by simp at h⟩
theorem cs_at {w : World} {A : Option Addr} {n c : Nat} {ps : List Cr} (h : IsCs w (.slice A n c) ps) {k : Nat} (hk : k < ps.length) :
    ∃ b off A' c', A = some ⟨b, off, none⟩ ∧ b < w.heap.size ∧ w.cell? ⟨b, off + k * 3, none⟩ = some (.slice A' ps[k].recs.length c') ∧ w.cell? ⟨b, off + k * 3 + 1, none⟩ = some (.bool ps[k].stop) ∧ w.cell? ⟨b, off + k * 3 + 2, none⟩ = some (.int .u8 ps[k].left) ∧ IsBs w (.slice A' ps[k].recs.length c') ps[k].recs := by
  obtain ⟨A1, c1, vs, e, _, hl, hr, hi⟩ := h
  injection e with e1 e2 e3
  subst e1
  have hk' : k < vs.length := by omega
  obtain ⟨h1, h2, h3⟩ := rowC_at hl hk hk'
  have hn := rowC_len hl
  obtain ⟨b, off, e, hb, hcc⟩ := hr (by intro h0; rw [h0] at hn; simp at hn; omega)
  have c1 := hcc (k * 3) (by omega)
  have c2 := hcc (k * 3 + 1) (by omega)
  have c3 := hcc (k * 3 + 2) (by omega)
  rw [← Nat.add_assoc] at c2 c3
  have g1 : (rowC ps vs)[k * 3]'(by omega) = vs[k] := by rw [List.getElem?_eq_getElem (by omega)] at h1; injection h1
  have g2 : (rowC ps vs)[k * 3 + 1]'(by omega) = .bool ps[k].stop := by rw [List.getElem?_eq_getElem (by omega)] at h2; injection h2
  have g3 : (rowC ps vs)[k * 3 + 2]'(by omega) = .int .u8 ps[k].left := by rw [List.getElem?_eq_getElem (by omega)] at h3; injection h3
  rw [g1] at c1
  rw [g2] at c2
  rw [g3] at c3
  have hb2 := hi k hk' hk
  obtain ⟨A', c', vs', e', _⟩ := id hb2
  rw [e'] at c1 hb2
  exact ⟨b, off, A', c', e, hb, c1, c2, c3, hb2⟩
theorem IsBs.offD {W W' : World} {v : Value} {rs : List By} (h : IsBs W v rs) {B : Nat} (hnb : ∀ b off k c, v = .slice (some ⟨b, off, none⟩) k c → b ≠ B) {A n c A2 n2 c2 l st} (hC : Cells W B 25 [.slice A n c, .slice A2 n2 c2, .int .i64 l, .bool st]) (hg : W.grownBy W' (some B)) : IsBs W' v rs := by
  obtain ⟨A', c', vs, e1, hc, hl, hr, hi⟩ := h
  refine ⟨A', c', vs, e1, hc, hl, fun hn => ?_, fun i h h' => (hi i h h').box hC hg⟩
  obtain ⟨b, off, e2, hb, hcc⟩ := hr hn
  have hne : b ≠ B := hnb b off _ c' (by rw [e1, e2])
  exact ⟨b, off, e2, Nat.lt_of_lt_of_le hb hg.size, fun i hi => (World.cell?_of_block (hg.block b hb (fun e => hne (by injection e)))).trans (hcc i hi)⟩
end Go.Proofs.Ytkcnanclpkongaa

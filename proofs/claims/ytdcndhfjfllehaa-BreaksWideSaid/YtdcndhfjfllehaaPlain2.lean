/- Plain mathematics of layer 47: the ends with the least cost; the cost of ends. -/
import Derived.Test.YtdcndhfjfllehaaPlain
namespace Go.Proofs.Ytdcndhfjfllehaa
set_option linter.unusedVariables false
set_option linter.unusedSimpArgs false
namespace Bk

/-- the ends of the lines, from a word on -/
def endsF (sp rm : Int) : Nat → Nat → List Int → List Nat
  | 0, _, _ => []
  | _ + 1, _, [] => []
  | f + 1, off, x :: r => (off + fst sp rm (x :: r)) :: endsF sp rm f (off + fst sp rm (x :: r)) ((x :: r).drop (fst sp rm (x :: r)))
def ends (sp rm : Int) (off : Nat) (ws : List Int) : List Nat := endsF sp rm ws.length off ws
theorem endsF_fuel {sp rm : Int} (f g off : Nat) (ws : List Int) (h : ok sp rm ws) (hf : ws.length ≤ f) (hg : ws.length ≤ g) : endsF sp rm f off ws = endsF sp rm g off ws := by
  induction f generalizing g off ws with
  | zero =>
    have : ws = [] := List.eq_nil_of_length_eq_zero (by omega)
    subst this
    cases g <;> rfl
  | succ f ih =>
    cases ws with
    | nil => cases g <;> rfl
    | cons x r =>
      cases g with
      | zero => simp at hg
      | succ g =>
        simp only [endsF]
        have hb := fst_bd h (by simp)
        rw [ih g _ _ (h.drop _) (by simp at hf ⊢; omega) (by simp at hg ⊢; omega)]
theorem ends_nil (sp rm : Int) (off : Nat) : ends sp rm off [] = [] := rfl
theorem ends_cons {sp rm : Int} (off : Nat) (ws : List Int) (h : ok sp rm ws) (hne : ws ≠ []) : ends sp rm off ws = (off + fst sp rm ws) :: ends sp rm (off + fst sp rm ws) (ws.drop (fst sp rm ws)) := by
  cases ws with
  | nil => exact absurd rfl hne
  | cons x r =>
    have hb := fst_bd h (by simp)
    unfold ends
    rw [show (x :: r).length = r.length + 1 from rfl]
    simp only [endsF]
    rw [endsF_fuel _ ((x :: r).drop (fst sp rm (x :: r))).length _ _ (h.drop _) (by simp; omega) (Nat.le_refl _)]
/-- the ends, moved -/
theorem ends_shift {sp rm : Int} (n : Nat) : ∀ (ws : List Int) (off d : Nat), ws.length ≤ n → ok sp rm ws → ends sp rm (off + d) ws = (ends sp rm off ws).map (· + d) := by
  induction n with
  | zero =>
    intro ws off d hl h
    have : ws = [] := List.eq_nil_of_length_eq_zero (by omega)
    subst this; rfl
  | succ n ih =>
    intro ws off d hl h
    cases ws with
    | nil => rfl
    | cons x r =>
      have hb := fst_bd h (by simp)
      rw [ends_cons _ _ h (by simp), ends_cons off _ h (by simp), List.map_cons]
      rw [show off + d + fst sp rm (x :: r) = off + fst sp rm (x :: r) + d by omega]
      congr 1
      exact ih _ _ _ (by simp at hl ⊢; omega) (h.drop _)

/-- the cost of a line of t words -/
def lc (sp rm : Int) (ws : List Int) (t : Nat) : Option Int := ((lines sp rm ws)[t - 1]?).bind fun p => if p.1 = t then some p.2 else none
theorem lc_mem {sp rm : Int} {ws : List Int} {t : Nat} {c : Int} : lc sp rm ws t = some c ↔ (t, c) ∈ lines sp rm ws := by
  unfold lc
  constructor
  · intro h
    obtain ⟨p, hp, h2⟩ := Option.bind_eq_some_iff.1 h
    obtain ⟨hk, he⟩ := List.getElem?_eq_some_iff.1 hp
    split at h2
    · rename_i e
      injection h2 with h2
      have : p = (t, c) := by rw [← e, ← h2]
      rw [← this, ← he]; exact List.getElem_mem hk
    · cases h2
  · intro h
    obtain ⟨k, hk, he⟩ := List.getElem_of_mem h
    have h1 := lines_get hk
    rw [he] at h1
    simp at h1
    rw [show t - 1 = k by omega, List.getElem?_eq_getElem hk, he]
    simp
/-- the cost of ends, if they are right -/
def cst (sp rm : Int) : Nat → List Int → List Int → Option Int
  | _, ws, [] => if ws.isEmpty then some 0 else none
  | at0, ws, e :: r => if (at0 : Int) < e then (match lc sp rm ws (e - at0).toNat with
    | some c => (cst sp rm e.toNat (ws.drop (e - at0).toNat) r).map (c + ·)
    | none => none) else none
end Bk
end Go.Proofs.Ytdcndhfjfllehaa

/- Plain mathematics of layer 50: the first of the least dues. -/
import Derived.Test.YtofllhbcediafaaPlain4
namespace Go.Proofs.Ytofllhbcediafaa
namespace Pl
def at_ (ds : List Int) (j : Nat) : Int := ds[j]?.getD 0
theorem at_eq (ds : List Int) (j : Nat) (h : j < ds.length) : at_ ds j = ds[j] := by simp [at_, h]

/-- b is the first of the least among the dues i .. k-1 -/
structure Best (ds : List Int) (i k b : Nat) : Prop where
  lo : i ≤ b
  hi : b < k
  le : ∀ j, i ≤ j → j < k → at_ ds b ≤ at_ ds j
  lt : ∀ j, i ≤ j → j < b → at_ ds b < at_ ds j

theorem Best.one (ds : List Int) (i : Nat) : Best ds i (i + 1) i := ⟨Nat.le_refl _, by omega, fun j h1 h2 => by rw [show j = i by omega]; exact Int.le_refl _, fun j h1 h2 => by omega⟩
theorem Best.more {ds : List Int} {i k b : Nat} (h : Best ds i k b) (hk : at_ ds b ≤ at_ ds k) : Best ds i (k + 1) b :=
  ⟨h.lo, by have := h.hi; omega, fun j h1 h2 => by
    by_cases e : j = k
    · subst e; exact hk
    · exact h.le j h1 (by omega), h.lt⟩
theorem Best.turn {ds : List Int} {i k b : Nat} (h : Best ds i k b) (hk : at_ ds k < at_ ds b) : Best ds i (k + 1) k :=
  ⟨by have := h.lo; have := h.hi; omega, by omega, fun j h1 h2 => by
    by_cases e : j = k
    · subst e; exact Int.le_refl _
    · have := h.le j h1 (by omega); omega, fun j h1 h2 => by have := h.le j h1 (by omega); omega⟩
theorem Best.unique {ds : List Int} {i k b c : Nat} (h : Best ds i k b) (g : Best ds i k c) : b = c := by
  rcases Nat.lt_trichotomy b c with hlt | he | hlt
  · have h1 := g.lt b h.lo hlt
    have h2 := h.le c g.lo g.hi
    omega
  · exact he
  · have h1 := h.lt c g.lo hlt
    have h2 := g.le b h.lo h.hi
    omega

theorem mins_best (ds : List Int) (p : Nat) (hp : p < ds.length) (q : Int × Nat) (m : List (Int × Nat)) (h : mins p (ds.drop p) = q :: m) : Best ds p ds.length q.2 ∧ q.1 = at_ ds q.2 := by
  induction hn : ds.length - p generalizing p q m with
  | zero => omega
  | succ n ih =>
    obtain ⟨h1, h2, h3⟩ := mins_head ds p q m h
    refine ⟨?_, by rw [at_eq ds _ h2, h3]⟩
    rw [mins_drop ds p hp] at h
    injection h with hq hm
    cases hM : mins (p + 1) (ds.drop (p + 1)) with
    | nil =>
      have hl := mins_length (p + 1) (ds.drop (p + 1))
      rw [hM] at hl
      simp at hl
      rw [hM] at hq
      simp only [pickM] at hq
      subst hq
      have e : ds.length = p + 1 := by omega
      rw [e]
      exact Best.one ds p
    | cons r m2 =>
      obtain ⟨e0, j0⟩ := r
      have hp1 : p + 1 < ds.length := by
        have hl := mins_length (p + 1) (ds.drop (p + 1))
        rw [hM] at hl
        simp at hl
        omega
      obtain ⟨hb, hv⟩ := ih (p + 1) hp1 (e0, j0) m2 hM (by omega)
      simp only at hb hv
      clear h3
      rw [hM] at hq
      simp only [pickM] at hq
      split at hq
      · rename_i hle
        subst hq
        rw [← at_eq ds p hp, hv] at hle
        refine ⟨Nat.le_refl _, hp, fun j j1 j2 => ?_, fun j j1 j2 => by simp only at j2; omega⟩
        by_cases e : j = p
        · subst e; exact Int.le_refl _
        · have := hb.le j (by omega) j2
          simp only
          omega
      · rename_i hle
        subst hq
        rw [← at_eq ds p hp, hv] at hle
        refine ⟨by have := hb.lo; omega, hb.hi, fun j j1 j2 => ?_, fun j j1 j2 => ?_⟩
        · by_cases e : j = p
          · subst e; show at_ ds j0 ≤ at_ ds j; omega
          · exact hb.le j (by omega) j2
        · by_cases e : j = p
          · subst e; show at_ ds j0 < at_ ds j; omega
          · exact hb.lt j (by omega) j2

theorem mins_append (ds : List Int) (p : Nat) (hp : p ≤ ds.length) : mins 0 ds = (mins 0 ds).take p ++ mins p (ds.drop p) := by
  induction p with
  | zero => simp
  | succ p ih =>
    have h := ih (by omega)
    rw [mins_drop ds p (by omega)] at h
    have hl : p < (mins 0 ds).length := by rw [mins_length]; omega
    have hlen : ((mins 0 ds).take p).length = p := by simp; omega
    have e : (mins 0 ds)[p] = pickM ds[p] p (mins (p + 1) (ds.drop (p + 1))) := by
      have h2 : (mins 0 ds)[p]? = some (pickM ds[p] p (mins (p + 1) (ds.drop (p + 1)))) := by
        rw [h, List.getElem?_append_right (by omega), hlen]; simp
      rw [List.getElem?_eq_getElem hl] at h2
      exact Option.some.inj h2
    rw [List.take_succ_eq_append_getElem hl, e, List.append_assoc]
    exact h
theorem mins_at (ds : List Int) (p : Nat) (hp : p < ds.length) (h : p < (mins 0 ds).length) : Best ds p ds.length (mins 0 ds)[p].2 ∧ (mins 0 ds)[p].1 = at_ ds (mins 0 ds)[p].2 := by
  have e := mins_append ds p (by omega)
  have hlen : ((mins 0 ds).take p).length = p := by simp; omega
  have hd := mins_drop ds p hp
  have e2 : (mins 0 ds)[p]? = (mins p (ds.drop p))[0]? := by
    rw [e, List.getElem?_append_right (by omega), hlen, Nat.sub_self]
  rw [hd, List.getElem?_eq_getElem h] at e2
  have e3 : (mins 0 ds)[p] = pickM ds[p] p (mins (p + 1) (ds.drop (p + 1))) := by simpa using e2
  rw [e3]
  exact mins_best ds p hp _ _ hd
theorem shown_len (ds : List Int) : (shown ds).length = ds.length := by simp [shown, mins_length]
theorem whys_len (ds : List Int) : (whys ds).length = ds.length := by simp [whys, mins_length]
theorem of_best (ds : List Int) (p b : Nat) (hp : p < ds.length) (h : Best ds p ds.length b) : (shown ds)[p]'(by rw [shown_len]; exact hp) = at_ ds b ∧ (whys ds)[p]'(by rw [whys_len]; exact hp) = (b : Int) := by
  have hl : p < (mins 0 ds).length := by rw [mins_length]; exact hp
  obtain ⟨h1, h2⟩ := mins_at ds p hp hl
  have hu := h.unique h1
  simp only [shown, whys, List.getElem_map]
  rw [h2, ← hu]
  exact ⟨rfl, rfl⟩
end Pl
end Go.Proofs.Ytofllhbcediafaa
